/-
  The functions compute their models.
-/
import Derived.Test.YtjmlnnanfkiakaaGreatDoorXCM
import Derived.Test.YtjmlnnanfkiakaaGreatDoorGt
import Derived.Test.YtjmlnnanfkiakaaGreatDoorStrS
set_option linter.unusedVariables false
set_option linter.unusedSimpArgs false
set_option maxRecDepth 100000
namespace Go.Proofs.YtjmlnnanfkiakaaGreatDoor
open Go.Gk
abbrev e_lanemake_Stream (x : T_lanemake_Stream) : List D := [Sl (eN .i64) x.L, .v (.int .i64 x.v_at)]
abbrev e_api_Owner (x : T_api_Owner) : List D := [.v (.string ⟨x.Tag.toArray⟩), Sl eS x.Users]
abbrev e_api_Directory (x : T_api_Directory) : List D := [Sl eS x.Users, Sl e_api_Owner x.Owners, .v (.int .i64 x.Life), .v (.bool x.Approve)]
abbrev e_api_Step (x : T_api_Step) : List D := [.v (.int .i64 x.At), .v (.string ⟨x.Server.toArray⟩), .v (.int .i64 x.No), .v (.int .i64 x.Kind), .v (.string ⟨x.By.toArray⟩), .v (.string ⟨x.Node.toArray⟩), .v (.string ⟨x.Join.toArray⟩), .v (.string ⟨x.Public.toArray⟩), .v (.string ⟨x.Name.toArray⟩), Sl eS x.Tags, .v (.int .i64 x.Until), .v (.int .i64 x.Uses), .v (.bool x.Ready)]
abbrev e_lanelaw1_yard (x : T_lanelaw1_yard) : List D := [Sl eS x.d.Users, Sl e_api_Owner x.d.Owners, .v (.int .i64 x.d.Life), .v (.bool x.d.Approve), Sl e_api_Step x.l, .v (.int .i64 x.fault)]
abbrev e_node_origin (x : T_node_origin) : List D := [.v (.string ⟨x.server.toArray⟩), .v (.int .i64 x.no)]
theorem ks_node_origin : KeyP Tryz.prog 150 (kD e_node_origin) := key_struct hΓ [150] e_node_origin (show Γ 150 = some ⟨.struct _, _, _, _⟩ from rfl) (by kernel_rfl) (fun _ => rfl) (fun _ => rfl) (fun a b => by
    show some (((a.server == b.server) && ((a.no == b.no) && true))) = some (a == b)
    refine congrArg some ?_
    rw [Bool.eq_iff_iff]
    cases a; cases b; simp [Bool.and_eq_true]) (fun a b h => by simpa using h) (fun a => by simp) (fun a => by simp [Instr.sameBits, kD, e_node_origin, ba_refl])
theorem c_lanemake_Below {x : Int} {n : Int} {r : Int} (h : m_lanemake_Below x n = some r) : Pure Tryz.prog 101 [I x, I n] (I r) := by
  refine Pure.enter (Fr.of 0 _) Tryz.func101 rfl (Fr.of_ok _) rfl rfl ?_
  refine go_in ?_
  unfold m_lanemake_Below at h
  refine go hΓ 12 rfl ?_
  refine j_cond rfl (fun hb => ?_) (fun hb => ?_)
  · have h1 := cT h hb
    refine go hΓ 7 rfl ?_
    obtain rfl := Option.some.inj h1
    exact fin_pure hΓ (.inr rfl) rfl rfl
  · have h2 := cF h hb
    obtain ⟨y3, hy3, h4⟩ := bi_ok h2
    refine go hΓ 6 rfl ?_
    refine eo_o rfl (op_remZ hy3 rfl rfl) ?_
    obtain ⟨q5, hq5, h6⟩ := bi_ok h4
    refine go_ops hΓ 10 rfl ?_
    refine j_cutNZ [(0, I q5)] [] ?_ ?_
    · refine j_cond rfl (fun hb => ?_) (fun hb => ?_)
      · have h7 := cT hq5 hb
        refine go hΓ 6 rfl ?_
        obtain rfl := Option.some.inj h7
        exact ⟨⟨rfl, trivial⟩, [], rfl, .inl rfl⟩
      · have h8 := cF hq5 hb
        refine go hΓ 1 rfl ?_
        obtain rfl := Option.some.inj h8
        exact ⟨⟨rfl, trivial⟩, [], rfl, .inl rfl⟩
    · refine go hΓ 8 rfl ?_
      obtain rfl := Option.some.inj h6
      exact fin_pure hΓ (.inr rfl) rfl rfl
theorem c_lanemake_Stream_Next {s : T_lanemake_Stream} {n : Int} {r : Int × T_lanemake_Stream} (h : m_lanemake_Stream_Next s n = some r) : EC Tryz.prog 26 [.ptr 0 0, I n] [.box 25 [.d (Sl (eN .i64) s.L), I s.v_at]] fun g hp' => g = I r.1 ∧ hp' = [.box 25 [.d (Sl (eN .i64) r.2.L), I r.2.v_at]] := by
  refine ec_enter (Fr.of 0 _) Tryz.func26 rfl (Fr.of_ok _) (Nat.le_of_ble_eq_true rfl) fun _ => ?_
  refine go_in ?_
  unfold m_lanemake_Stream_Next at h
  refine go hΓ 14 rfl ?_
  refine eo_store hΓ rfl rfl rfl rfl rfl rfl rfl rfl (Nat.le_of_ble_eq_true rfl) ?_
  refine eo_hp [.box 25 [.d (Sl (eN .i64) s.L), I (wi (s.v_at + 1))]] rfl ?_
  refine go_ops hΓ 13 rfl ?_
  refine j_cond rfl (fun hb => ?_) (fun hb => ?_)
  · have h1 := cT h hb
    obtain ⟨y2, hy2, h3⟩ := bi_ok h1
    refine go hΓ 8 rfl ?_
    refine eo_callP (callable Tryz.func101 rfl rfl) (c_lanemake_Below hy2) rfl (Nat.le_of_ble_eq_true rfl) rfl rfl rfl rfl rfl ?_
    refine go_ops hΓ 5 rfl ?_
    obtain rfl := Option.some.inj h3
    exact fin_objs hΓ [] (.inr rfl) rfl rfl rfl rfl (.inl rfl)
  · have h4 := cF h hb
    refine go hΓ 3 rfl ?_
    refine j_draw hmix (by kernel_rfl) ?_
    obtain ⟨y5, hy5, h6⟩ := bi_ok h4
    refine go hΓ 10 rfl ?_
    refine gl_o rfl (op_remZ hy5 rfl rfl) ?_
    refine go_draw hΓ 4 rfl ?_
    refine j_draw hmix (by kernel_rfl) ?_
    obtain ⟨y7, hy7, h8⟩ := bi_ok h6
    refine go hΓ 10 rfl ?_
    refine gl_o rfl (op_quoZ hy7 rfl rfl) ?_
    obtain ⟨x9, hx9, h10⟩ := bi_ok h8
    refine go_draw hΓ 10 rfl ?_
    refine eo_o rfl (op_elemZ hΓ (enc := (eN .i64)) hx9 rfl rfl rfl rfl rfl (fun _ => rfl)) ?_
    obtain ⟨y11, hy11, h12⟩ := bi_ok h10
    refine go_ops hΓ 1 rfl ?_
    refine eo_callP (callable Tryz.func101 rfl rfl) (c_lanemake_Below hy11) rfl (Nat.le_of_ble_eq_true rfl) rfl rfl rfl rfl rfl ?_
    obtain ⟨y13, hy13, h14⟩ := bi_ok h12
    refine go_ops hΓ 6 rfl ?_
    refine eo_callP (callable Tryz.func101 rfl rfl) (c_lanemake_Below hy13) rfl (Nat.le_of_ble_eq_true rfl) rfl rfl rfl rfl rfl ?_
    refine go_ops hΓ 4 rfl ?_
    obtain rfl := Option.some.inj h14
    exact fin_objs hΓ [] (.inr rfl) rfl rfl rfl rfl (.inl rfl)
theorem c_lanemake_Stream_Range {s : T_lanemake_Stream} {low : Int} {high : Int} {r : Int × T_lanemake_Stream} (h : m_lanemake_Stream_Range s low high = some r) : EC Tryz.prog 11 [.ptr 0 0, I low, I high] [.box 25 [.d (Sl (eN .i64) s.L), I s.v_at]] fun g hp' => g = I r.1 ∧ hp' = [.box 25 [.d (Sl (eN .i64) r.2.L), I r.2.v_at]] := by
  refine ec_enter (Fr.of 0 _) Tryz.func11 rfl (Fr.of_ok _) (Nat.le_of_ble_eq_true rfl) fun _ => ?_
  refine go_in ?_
  unfold m_lanemake_Stream_Range at h
  refine go hΓ 13 rfl ?_
  refine j_cond rfl (fun hb => ?_) (fun hb => ?_)
  · have h1 := cT h hb
    refine go hΓ 8 rfl ?_
    obtain rfl := Option.some.inj h1
    exact fin_objs hΓ [] (.inr rfl) rfl rfl rfl rfl (.inl rfl)
  · have h2 := cF h hb
    obtain ⟨y3, hy3, h4⟩ := bi_ok h2
    refine go hΓ 10 rfl ?_
    refine eo_callF [0] (I y3.1) [.box 25 [.d (Sl (eN .i64) y3.2.L), I y3.2.v_at]] (callable Tryz.func26 rfl rfl) (c_lanemake_Stream_Next hy3) rfl (Nat.le_of_ble_eq_true rfl) rfl rfl rfl rfl rfl rfl rfl rfl rfl rfl ?_
    refine go_ops hΓ 5 rfl ?_
    obtain rfl := Option.some.inj h4
    exact fin_objs hΓ [] (.inr rfl) rfl rfl rfl rfl (.inl rfl)
theorem c_lanemake_Stream_Pick {s : T_lanemake_Stream} {l : List Int} {r : Int × T_lanemake_Stream} (h : m_lanemake_Stream_Pick s l = some r) : EC Tryz.prog 13 [.ptr 0 0, .d (Sl (eN .i64) l)] [.box 25 [.d (Sl (eN .i64) s.L), I s.v_at]] fun g hp' => g = I r.1 ∧ hp' = [.box 25 [.d (Sl (eN .i64) r.2.L), I r.2.v_at]] := by
  refine ec_enter (Fr.of 0 _) Tryz.func13 rfl (Fr.of_ok _) (Nat.le_of_ble_eq_true rfl) fun _ => ?_
  refine go_in ?_
  unfold m_lanemake_Stream_Pick at h
  obtain ⟨y1, hy1, h2⟩ := bi_ok h
  refine go hΓ 11 rfl ?_
  refine eo_callF [0] (I y1.1) [.box 25 [.d (Sl (eN .i64) y1.2.L), I y1.2.v_at]] (callable Tryz.func26 rfl rfl) (c_lanemake_Stream_Next hy1) rfl (Nat.le_of_ble_eq_true rfl) rfl rfl rfl rfl rfl rfl rfl rfl rfl rfl ?_
  obtain ⟨x3, hx3, h4⟩ := bi_ok h2
  refine eo_o rfl (op_elemZ hΓ (enc := (eN .i64)) hx3 rfl rfl rfl rfl rfl (fun _ => rfl)) ?_
  refine go_ops hΓ 5 rfl ?_
  obtain rfl := Option.some.inj h4
  exact fin_objs hΓ [] (.inr rfl) rfl rfl rfl rfl (.inl rfl)
theorem c_lanemake_Stream_Flip {s : T_lanemake_Stream} {n : Int} {r : Bool × T_lanemake_Stream} (h : m_lanemake_Stream_Flip s n = some r) : EC Tryz.prog 24 [.ptr 0 0, I n] [.box 25 [.d (Sl (eN .i64) s.L), I s.v_at]] fun g hp' => g = B r.1 ∧ hp' = [.box 25 [.d (Sl (eN .i64) r.2.L), I r.2.v_at]] := by
  refine ec_enter (Fr.of 0 _) Tryz.func24 rfl (Fr.of_ok _) (Nat.le_of_ble_eq_true rfl) fun _ => ?_
  refine go_in ?_
  unfold m_lanemake_Stream_Flip at h
  obtain ⟨y1, hy1, h2⟩ := bi_ok h
  refine go hΓ 9 rfl ?_
  refine eo_callF [0] (I y1.1) [.box 25 [.d (Sl (eN .i64) y1.2.L), I y1.2.v_at]] (callable Tryz.func26 rfl rfl) (c_lanemake_Stream_Next hy1) rfl (Nat.le_of_ble_eq_true rfl) rfl rfl rfl rfl rfl rfl rfl rfl rfl rfl ?_
  refine go_ops hΓ 5 rfl ?_
  obtain rfl := Option.some.inj h2
  exact fin_objs hΓ [] (.inr rfl) rfl rfl rfl rfl (.inl rfl)
theorem c_lanemake_Stream_RightDirectory {s : T_lanemake_Stream} {r : T_api_Directory × T_lanemake_Stream} (h : m_lanemake_Stream_RightDirectory s = some r) : EC Tryz.prog 187 [.ptr 0 0] [.box 25 [.d (Sl (eN .i64) s.L), I s.v_at]] fun g hp' => g = .agg [.sl 1 r.1.Users.length, .sl 2 r.1.Owners.length, I r.1.Life, B r.1.Approve] ∧ hp' = [.box 25 [.d (Sl (eN .i64) r.2.L), I r.2.v_at], .row 9 1 r.1.Users.length (r.1.Users.flatMap eS), .row 155 2 r.1.Owners.length (r.1.Owners.flatMap e_api_Owner)] := by
  refine ec_enterC (Fr.of 0 _) Tryz.func187 rfl (Fr.of_ok _) (Nat.le_of_ble_eq_true rfl) fun _ => ?_
  refine go_in ?_
  unfold m_lanemake_Stream_RightDirectory at h
  refine go hΓ 2 rfl ?_
  refine eo_alloc hΓ rfl rfl rfl (Nat.le_of_ble_eq_true rfl) ?_
  refine go_ops hΓ 3 rfl ?_
  obtain ⟨y1, hy1, h2⟩ := bi_ok h
  obtain ⟨x3, hx3, h4⟩ := bi_ok h2
  obtain ⟨y5, hy5, h6⟩ := bi_ok h4
  obtain ⟨x7, hx7, h8⟩ := bi_ok h6
  obtain ⟨y9, hy9, h10⟩ := bi_ok h8
  obtain ⟨y11, hy11, h12⟩ := bi_ok h10
  refine j_drawC hΓ [] [] [0, 5, 13, 17, 20, 22, 24] [] [⟨1, [], .d (Sl eS [[97, 110, 110], [98, 111, 98]]), none⟩, ⟨2, [], .d (Sl eS [[98, 111, 98]]), none⟩, ⟨3, [(4, .d (Sl eS [[97, 110, 110], [98, 111, 98]])), (5, .d (Sl eS [[98, 111, 98]]))], .d (Sl (eL eS) [[[97, 110, 110], [98, 111, 98]], [[98, 111, 98]], []]), none⟩, ⟨5, [(7, .ptr 0 0)], I y1.1, some (0, .box 25 [.d (Sl (eN .i64) s.L), I s.v_at], .box 25 [.d (Sl (eN .i64) y1.2.L), I y1.2.v_at])⟩, ⟨6, [(6, .d (Sl (eL eS) [[[97, 110, 110], [98, 111, 98]], [[98, 111, 98]], []])), (8, I y1.1)], .rp [Sl eS x3], none⟩, ⟨9, [], .d (Sl eS [[97, 110, 110]]), none⟩, ⟨10, [], .d (Sl eS [[97, 110, 110], [99, 105, 100]]), none⟩, ⟨11, [(12, .d (Sl eS [[97, 110, 110]])), (13, .d (Sl eS [[97, 110, 110], [99, 105, 100]]))], .d (Sl (eL eS) [[[97, 110, 110]], [[97, 110, 110], [99, 105, 100]]]), none⟩, ⟨13, [(15, .ptr 0 0)], I y5.1, some (0, .box 25 [.d (Sl (eN .i64) y1.2.L), I y1.2.v_at], .box 25 [.d (Sl (eN .i64) y5.2.L), I y5.2.v_at])⟩, ⟨14, [(14, .d (Sl (eL eS) [[[97, 110, 110]], [[97, 110, 110], [99, 105, 100]]])), (16, I y5.1)], .rp [Sl eS x7], none⟩, ⟨19, [], .d (Sl (eN .i64) [20, 60, 100, 1000]), none⟩, ⟨20, [(21, .ptr 0 0), (22, .d (Sl (eN .i64) [20, 60, 100, 1000]))], I y9.1, some (0, .box 25 [.d (Sl (eN .i64) y5.2.L), I y5.2.v_at], .box 25 [.d (Sl (eN .i64) y9.2.L), I y9.2.v_at])⟩, ⟨22, [(24, .ptr 0 0)], B y11.1, some (0, .box 25 [.d (Sl (eN .i64) y9.2.L), I y9.2.v_at], .box 25 [.d (Sl (eN .i64) y11.2.L), I y11.2.v_at])⟩] [([0, 1, 2, 3], [0, 1, 2, 3]), ([0, 1, 2, 3], [0, 1, 2, 3]), ([0, 1, 2, 3], [0, 1, 2, 3]), ([0, 1, 2, 3], [0, 1, 2, 3]), ([0, 1, 2, 3], [0, 1, 2, 3]), ([0, 1, 2, 3], [0, 1, 2, 3]), ([0, 1, 2, 3], [0, 1, 2, 3]), ([0, 1, 2, 3], [0, 1, 2, 3]), ([0, 1, 2, 3], [0, 1, 2, 3]), ([0, 1, 3, 2], [0, 1, 3, 2]), ([0, 1, 3, 2], [0, 1, 3, 2]), ([0, 1, 3, 2], [0, 1, 3, 2]), ([0, 1, 2, 3], [0, 1, 2, 3]), ([0, 1, 2, 3], [0, 1, 2, 3]), ([0, 1, 3, 2], [0, 1, 3, 2]), ([0, 1, 3, 2], [0, 1, 3, 2]), ([0, 1, 2, 3], [0, 1, 2, 3]), ([0, 1, 3, 2], [0, 1, 3, 2])] [(2, .ptr 1 0)] [.box 25 [.d (Sl (eN .i64) y11.2.L), I y11.2.v_at], .box 29 [.sl 2 [[97, 110, 110], [98, 111, 98], [99, 105, 100]].length, .sl 3 [(⟨[100, 98], x3⟩ : T_api_Owner), (⟨[119, 101, 98], x7⟩ : T_api_Owner)].length, I y9.1, B y11.1], .row 9 1 [[97, 110, 110], [98, 111, 98], [99, 105, 100]].length ([[97, 110, 110], [98, 111, 98], [99, 105, 100]].flatMap eS), .row 155 2 [(⟨[100, 98], x3⟩ : T_api_Owner), (⟨[119, 101, 98], x7⟩ : T_api_Owner)].length ([(⟨[100, 98], x3⟩ : T_api_Owner), (⟨[119, 101, 98], x7⟩ : T_api_Owner)].flatMap e_api_Owner)] hmix (by kernel_rfl) (by kernel_rfl) (specs_ok ⟨spec_lit hΓ (enc := eS) [[97, 110, 110], [98, 111, 98]] rfl rfl rfl rfl rfl rfl rfl rfl rfl rfl rfl rfl rfl rfl, spec_lit hΓ (enc := eS) [[98, 111, 98]] rfl rfl rfl rfl rfl rfl rfl rfl rfl rfl rfl rfl rfl rfl, spec_lit hΓ (enc := (eL eS)) [[[97, 110, 110], [98, 111, 98]], [[98, 111, 98]], []] rfl rfl rfl rfl rfl rfl rfl rfl rfl rfl rfl rfl rfl rfl, spec_c 0 rfl rfl rfl (callable Tryz.func26 rfl rfl) (c_lanemake_Stream_Next hy1) rfl rfl (fun _ => rfl) (fun _ => rfl) rfl rfl (fun _ => rfl) (fun _ => rfl), spec_p rfl rfl rfl (fun hp => op_elemZ hΓ (enc := (eL eS)) hx3 rfl rfl rfl rfl rfl (fun _ => rfl)), spec_lit hΓ (enc := eS) [[97, 110, 110]] rfl rfl rfl rfl rfl rfl rfl rfl rfl rfl rfl rfl rfl rfl, spec_lit hΓ (enc := eS) [[97, 110, 110], [99, 105, 100]] rfl rfl rfl rfl rfl rfl rfl rfl rfl rfl rfl rfl rfl rfl, spec_lit hΓ (enc := (eL eS)) [[[97, 110, 110]], [[97, 110, 110], [99, 105, 100]]] rfl rfl rfl rfl rfl rfl rfl rfl rfl rfl rfl rfl rfl rfl, spec_c 0 rfl rfl rfl (callable Tryz.func26 rfl rfl) (c_lanemake_Stream_Next hy5) rfl rfl (fun _ => rfl) (fun _ => rfl) rfl rfl (fun _ => rfl) (fun _ => rfl), spec_p rfl rfl rfl (fun hp => op_elemZ hΓ (enc := (eL eS)) hx7 rfl rfl rfl rfl rfl (fun _ => rfl)), spec_lit hΓ (enc := (eN .i64)) [20, 60, 100, 1000] rfl rfl rfl rfl rfl rfl rfl rfl rfl rfl rfl rfl rfl rfl, spec_c 0 rfl rfl rfl (callable Tryz.func13 rfl rfl) (c_lanemake_Stream_Pick hy9) rfl rfl (fun _ => rfl) (fun _ => rfl) rfl rfl (fun _ => rfl) (fun _ => rfl), spec_c 0 rfl rfl rfl (callable Tryz.func24 rfl rfl) (c_lanemake_Stream_Flip hy11) rfl rfl (fun _ => rfl) (fun _ => rfl) rfl rfl (fun _ => rfl) (fun _ => rfl), trivial⟩) trivial (Nat.le_of_ble_eq_true rfl) ?_
  refine go hΓ 2 rfl ?_
  refine cv_name (Nat.le_of_ble_eq_true rfl) ?_
  refine cv_move 1 4 [.box 25 [.d (Sl (eN .i64) y11.2.L), I y11.2.v_at], .dead, .row 9 1 [[97, 110, 110], [98, 111, 98], [99, 105, 100]].length ([[97, 110, 110], [98, 111, 98], [99, 105, 100]].flatMap eS), .row 155 2 [(⟨[100, 98], x3⟩ : T_api_Owner), (⟨[119, 101, 98], x7⟩ : T_api_Owner)].length ([(⟨[100, 98], x3⟩ : T_api_Owner), (⟨[119, 101, 98], x7⟩ : T_api_Owner)].flatMap e_api_Owner), .box 29 [.sl 2 [[97, 110, 110], [98, 111, 98], [99, 105, 100]].length, .sl 3 [(⟨[100, 98], x3⟩ : T_api_Owner), (⟨[119, 101, 98], x7⟩ : T_api_Owner)].length, I y9.1, B y11.1]] rfl rfl rfl rfl rfl rfl ?_
  refine cv_move 2 1 [.box 25 [.d (Sl (eN .i64) y11.2.L), I y11.2.v_at], .row 9 1 [[97, 110, 110], [98, 111, 98], [99, 105, 100]].length ([[97, 110, 110], [98, 111, 98], [99, 105, 100]].flatMap eS), .dead, .row 155 2 [(⟨[100, 98], x3⟩ : T_api_Owner), (⟨[119, 101, 98], x7⟩ : T_api_Owner)].length ([(⟨[100, 98], x3⟩ : T_api_Owner), (⟨[119, 101, 98], x7⟩ : T_api_Owner)].flatMap e_api_Owner), .box 29 [.sl 1 [[97, 110, 110], [98, 111, 98], [99, 105, 100]].length, .sl 3 [(⟨[100, 98], x3⟩ : T_api_Owner), (⟨[119, 101, 98], x7⟩ : T_api_Owner)].length, I y9.1, B y11.1]] rfl rfl rfl rfl rfl rfl ?_
  refine cv_move 3 2 [.box 25 [.d (Sl (eN .i64) y11.2.L), I y11.2.v_at], .row 9 1 [[97, 110, 110], [98, 111, 98], [99, 105, 100]].length ([[97, 110, 110], [98, 111, 98], [99, 105, 100]].flatMap eS), .row 155 2 [(⟨[100, 98], x3⟩ : T_api_Owner), (⟨[119, 101, 98], x7⟩ : T_api_Owner)].length ([(⟨[100, 98], x3⟩ : T_api_Owner), (⟨[119, 101, 98], x7⟩ : T_api_Owner)].flatMap e_api_Owner), .dead, .box 29 [.sl 1 [[97, 110, 110], [98, 111, 98], [99, 105, 100]].length, .sl 2 [(⟨[100, 98], x3⟩ : T_api_Owner), (⟨[119, 101, 98], x7⟩ : T_api_Owner)].length, I y9.1, B y11.1]] rfl rfl rfl rfl rfl rfl ?_
  refine cv_here ?_
  obtain rfl := Option.some.inj h12
  exact fin_objs hΓ [_, _] (.inr rfl) rfl rfl rfl rfl (.inr ⟨HB.mk rfl, rfl⟩)
theorem c_lanemake_Stream_Some {s : T_lanemake_Stream} {l : List Str} {r : Str × T_lanemake_Stream} (h : m_lanemake_Stream_Some s l = some r) : EC Tryz.prog 22 [.ptr 0 0, .d (Sl eS l)] [.box 25 [.d (Sl (eN .i64) s.L), I s.v_at]] fun g hp' => g = S r.1 ∧ hp' = [.box 25 [.d (Sl (eN .i64) r.2.L), I r.2.v_at]] := by
  refine ec_enter (Fr.of 0 _) Tryz.func22 rfl (Fr.of_ok _) (Nat.le_of_ble_eq_true rfl) fun _ => ?_
  refine go_in ?_
  unfold m_lanemake_Stream_Some at h
  obtain ⟨y1, hy1, h2⟩ := bi_ok h
  refine go hΓ 11 rfl ?_
  refine eo_callF [0] (I y1.1) [.box 25 [.d (Sl (eN .i64) y1.2.L), I y1.2.v_at]] (callable Tryz.func26 rfl rfl) (c_lanemake_Stream_Next hy1) rfl (Nat.le_of_ble_eq_true rfl) rfl rfl rfl rfl rfl rfl rfl rfl rfl rfl ?_
  obtain ⟨x3, hx3, h4⟩ := bi_ok h2
  refine eo_o rfl (op_elemZ hΓ (enc := eS) hx3 rfl rfl rfl rfl rfl (fun _ => rfl)) ?_
  refine go_ops hΓ 5 rfl ?_
  obtain rfl := Option.some.inj h4
  exact fin_objs hΓ [] (.inr rfl) rfl rfl rfl rfl (.inl rfl)
set_option maxHeartbeats 8000000 in
theorem c_lanemake_Stream_Directory {s : T_lanemake_Stream} {r : T_api_Directory × T_lanemake_Stream} (h : m_lanemake_Stream_Directory s = some r) : EC Tryz.prog 83 [.ptr 0 0] [.box 25 [.d (Sl (eN .i64) s.L), I s.v_at]] fun g hp' => g = .agg [.d (Sl eS r.1.Users), .d (Sl e_api_Owner r.1.Owners), I r.1.Life, B r.1.Approve] ∧ hp' = [.box 25 [.d (Sl (eN .i64) r.2.L), I r.2.v_at]] := by
  refine ec_enter (Fr.of 0 _) Tryz.func83 rfl (Fr.of_ok _) (Nat.le_of_ble_eq_true rfl) fun _ => ?_
  refine go_in ?_
  unfold m_lanemake_Stream_Directory at h
  refine go hΓ 2 rfl ?_
  refine eo_alloc hΓ rfl rfl rfl (Nat.le_of_ble_eq_true rfl) ?_
  obtain ⟨y1, hy1, h2⟩ := bi_ok h
  refine go_ops hΓ 5 rfl ?_
  refine eo_callF [0] (.agg [.sl 2 y1.1.Users.length, .sl 3 y1.1.Owners.length, I y1.1.Life, B y1.1.Approve]) [.box 25 [.d (Sl (eN .i64) y1.2.L), I y1.2.v_at], .box 29 [.d (Sl eS []), .d (Sl e_api_Owner []), I 0, B false], .row 9 1 y1.1.Users.length (y1.1.Users.flatMap eS), .row 155 2 y1.1.Owners.length (y1.1.Owners.flatMap e_api_Owner)] (callable Tryz.func187 rfl rfl) (c_lanemake_Stream_RightDirectory hy1) rfl (Nat.le_of_ble_eq_true rfl) rfl rfl rfl rfl rfl rfl rfl rfl rfl rfl ?_
  refine eo_alloc hΓ rfl rfl rfl (Nat.le_of_ble_eq_true rfl) ?_
  refine eo_store hΓ rfl rfl rfl rfl rfl rfl rfl rfl (Nat.le_of_ble_eq_true rfl) ?_
  refine eo_hp [.box 25 [.d (Sl (eN .i64) y1.2.L), I y1.2.v_at], .box 29 [.d (Sl eS []), .d (Sl e_api_Owner []), I 0, B false], .row 9 1 y1.1.Users.length (y1.1.Users.flatMap eS), .row 155 2 y1.1.Owners.length (y1.1.Owners.flatMap e_api_Owner), .box 29 [.sl 2 y1.1.Users.length, .sl 3 y1.1.Owners.length, I y1.1.Life, B y1.1.Approve]] rfl ?_
  obtain ⟨y3, hy3, h4⟩ := bi_ok h2
  refine go_ops hΓ 6 rfl ?_
  refine eo_callF [0] (B y3.1) [.box 25 [.d (Sl (eN .i64) y3.2.L), I y3.2.v_at], .box 29 [.d (Sl eS []), .d (Sl e_api_Owner []), I 0, B false], .row 9 1 y1.1.Users.length (y1.1.Users.flatMap eS), .row 155 2 y1.1.Owners.length (y1.1.Owners.flatMap e_api_Owner), .box 29 [.sl 2 y1.1.Users.length, .sl 3 y1.1.Owners.length, I y1.1.Life, B y1.1.Approve]] (callable Tryz.func24 rfl rfl) (c_lanemake_Stream_Flip hy3) rfl (Nat.le_of_ble_eq_true rfl) rfl rfl rfl rfl rfl rfl rfl rfl rfl rfl ?_
  obtain ⟨q5, hq5, h6⟩ := bi_ok h4
  refine go_ops hΓ 2 rfl ?_
  refine j_cutNC [(2, .ptr 1 0), (3, .ptr 4 0)] [.box 25 [.d (Sl (eN .i64) q5.1.L), I q5.1.v_at], .box 29 [.d (Sl eS []), .d (Sl e_api_Owner []), I 0, B false], .row 9 1 q5.2.1.length (q5.2.1.flatMap eS), .row 155 2 q5.2.2.1.length (q5.2.2.1.flatMap e_api_Owner), .box 29 [.sl 2 q5.2.1.length, .sl 3 q5.2.2.1.length, I q5.2.2.2, B y1.1.Approve]] ?_ ?_
  · refine j_cond rfl (fun hb => ?_) (fun hb => ?_)
    · have h7 := cT hq5 hb
      obtain ⟨y8, hy8, h9⟩ := bi_ok h7
      refine go hΓ 3 rfl ?_
      refine eo_callF [0] (I y8.1) [.box 25 [.d (Sl (eN .i64) y8.2.L), I y8.2.v_at], .box 29 [.d (Sl eS []), .d (Sl e_api_Owner []), I 0, B false], .row 9 1 y1.1.Users.length (y1.1.Users.flatMap eS), .row 155 2 y1.1.Owners.length (y1.1.Owners.flatMap e_api_Owner), .box 29 [.sl 2 y1.1.Users.length, .sl 3 y1.1.Owners.length, I y1.1.Life, B y1.1.Approve]] (callable Tryz.func26 rfl rfl) (c_lanemake_Stream_Next hy8) rfl (Nat.le_of_ble_eq_true rfl) rfl rfl rfl rfl rfl rfl rfl rfl rfl rfl ?_
      refine go_ops hΓ 9 rfl ?_
      refine j_cond rfl (fun hb => ?_) (fun hb => ?_)
      · have h10 := cT h9 hb
        refine j_drawE [.dead, .dead, .dead, .dead, .box 29 [.sl 2 y1.1.Users.length, .sl 3 y1.1.Owners.length, I y1.1.Life, B y1.1.Approve]] [1] [4, 6, 8] [6, 8] hmix (by kernel_rfl) (by kernel_rfl) ⟨rfl, trivial⟩ (Nat.le_of_ble_eq_true rfl) ?_
        refine go_E hΓ 3 rfl ?_
        refine ge_litT hΓ (enc := eS) [[], [97, 110, 110], [65]] rfl rfl rfl rfl rfl rfl rfl rfl rfl rfl rfl rfl ?_
        obtain ⟨y11, hy11, h12⟩ := bi_ok h10
        refine ge_h [.box 25 [.d (Sl (eN .i64) y11.2.L), I y11.2.v_at], .box 29 [.d (Sl eS []), .d (Sl e_api_Owner []), I 0, B false], .row 9 1 y1.1.Users.length (y1.1.Users.flatMap eS), .row 155 2 y1.1.Owners.length (y1.1.Owners.flatMap e_api_Owner), .box 29 [.sl 2 y1.1.Users.length, .sl 3 y1.1.Owners.length, I y1.1.Life, B y1.1.Approve]] rfl rfl rfl (st_st ⟨rfl, trivial⟩) (qte_callF [0] (S y11.1) [.box 25 [.d (Sl (eN .i64) y11.2.L), I y11.2.v_at], .box 29 [.d (Sl eS []), .d (Sl e_api_Owner []), I 0, B false], .row 9 1 y1.1.Users.length (y1.1.Users.flatMap eS), .row 155 2 y1.1.Owners.length (y1.1.Owners.flatMap e_api_Owner), .box 29 [.sl 2 y1.1.Users.length, .sl 3 y1.1.Owners.length, I y1.1.Life, B y1.1.Approve]] (callable Tryz.func22 rfl rfl) (c_lanemake_Stream_Some hy11) rfl rfl rfl rfl rfl rfl rfl rfl rfl rfl) ?_
        refine ge_litT hΓ (enc := eS) [y11.1] rfl rfl rfl rfl rfl rfl rfl rfl rfl rfl rfl rfl ?_
        obtain ⟨y13, hy13, h14⟩ := bi_ok h12
        refine ge_h [.box 25 [.d (Sl (eN .i64) y11.2.L), I y11.2.v_at], .box 29 [.d (Sl eS []), .d (Sl e_api_Owner []), I 0, B false], .dead, .row 155 2 y1.1.Owners.length (y1.1.Owners.flatMap e_api_Owner), .box 29 [.junk, .sl 3 y1.1.Owners.length, I y1.1.Life, B y1.1.Approve], .row 9 1 y13.length (y13.flatMap eS)] rfl rfl rfl (brk_st rfl) (qte_s (ops_forg 2 (ops_appendT hΓ (enc := eS) (id := 2) (h2 := show Γ 9 = some ⟨_, 1, _, _⟩ from rfl) hy13 rfl rfl rfl rfl rfl rfl rfl rfl (fun _ => rfl) rfl))) ?_
        refine go_E hΓ 1 rfl ?_
        refine ge_h0 [.box 25 [.d (Sl (eN .i64) y11.2.L), I y11.2.v_at], .box 29 [.d (Sl eS []), .d (Sl e_api_Owner []), I 0, B false], .dead, .row 155 2 y1.1.Owners.length (y1.1.Owners.flatMap e_api_Owner), .box 29 [.sl 5 y13.length, .sl 3 y1.1.Owners.length, I y1.1.Life, B y1.1.Approve], .row 9 1 y13.length (y13.flatMap eS)] rfl rfl (brk_st rfl) (qte_u (opu_store2 hΓ rfl rfl rfl rfl rfl rfl rfl rfl rfl)) ?_
        refine ge_fin ?_
        refine go hΓ 1 rfl ?_
        refine cv_move 5 2 [.box 25 [.d (Sl (eN .i64) y11.2.L), I y11.2.v_at], .box 29 [.d (Sl eS []), .d (Sl e_api_Owner []), I 0, B false], .row 9 1 y13.length (y13.flatMap eS), .row 155 2 y1.1.Owners.length (y1.1.Owners.flatMap e_api_Owner), .box 29 [.sl 2 y13.length, .sl 3 y1.1.Owners.length, I y1.1.Life, B y1.1.Approve], .dead] rfl rfl rfl rfl rfl rfl ?_
        refine cv_here ?_
        obtain rfl := Option.some.inj h14
        exact ⟨⟨rfl, rfl, trivial⟩, [_], rfl, .inr ⟨HB.mk rfl, FB.mk rfl, (Nat.le_of_ble_eq_true rfl)⟩⟩
      · have h15 := cF h9 hb
        refine go hΓ 6 rfl ?_
        refine j_cond rfl (fun hb => ?_) (fun hb => ?_)
        · have h16 := cT h15 hb
          refine j_drawE [.dead, .dead, .dead, .dead, .box 29 [.sl 2 y1.1.Users.length, .sl 3 y1.1.Owners.length, I y1.1.Life, B y1.1.Approve]] [1] [4, 7, 11, 13] [11, 13] hmix (by kernel_rfl) (by kernel_rfl) ⟨rfl, trivial⟩ (Nat.le_of_ble_eq_true rfl) ?_
          refine go_E hΓ 3 rfl ?_
          refine ge_litT hΓ (enc := eS) [[], [100, 98], [122, 122]] rfl rfl rfl rfl rfl rfl rfl rfl rfl rfl rfl rfl ?_
          obtain ⟨y17, hy17, h18⟩ := bi_ok h16
          refine ge_h [.box 25 [.d (Sl (eN .i64) y17.2.L), I y17.2.v_at], .box 29 [.d (Sl eS []), .d (Sl e_api_Owner []), I 0, B false], .row 9 1 y1.1.Users.length (y1.1.Users.flatMap eS), .row 155 2 y1.1.Owners.length (y1.1.Owners.flatMap e_api_Owner), .box 29 [.sl 2 y1.1.Users.length, .sl 3 y1.1.Owners.length, I y1.1.Life, B y1.1.Approve]] rfl rfl rfl (st_st ⟨rfl, trivial⟩) (qte_callF [0] (S y17.1) [.box 25 [.d (Sl (eN .i64) y17.2.L), I y17.2.v_at], .box 29 [.d (Sl eS []), .d (Sl e_api_Owner []), I 0, B false], .row 9 1 y1.1.Users.length (y1.1.Users.flatMap eS), .row 155 2 y1.1.Owners.length (y1.1.Owners.flatMap e_api_Owner), .box 29 [.sl 2 y1.1.Users.length, .sl 3 y1.1.Owners.length, I y1.1.Life, B y1.1.Approve]] (callable Tryz.func22 rfl rfl) (c_lanemake_Stream_Some hy17) rfl rfl rfl rfl rfl rfl rfl rfl rfl rfl) ?_
          refine go_E hΓ 1 rfl ?_
          refine ge_litT hΓ (enc := eS) [[97, 110, 110], [110, 111, 110, 101]] rfl rfl rfl rfl rfl rfl rfl rfl rfl rfl rfl rfl ?_
          obtain ⟨y19, hy19, h20⟩ := bi_ok h18
          refine ge_h [.box 25 [.d (Sl (eN .i64) y19.2.L), I y19.2.v_at], .box 29 [.d (Sl eS []), .d (Sl e_api_Owner []), I 0, B false], .row 9 1 y1.1.Users.length (y1.1.Users.flatMap eS), .row 155 2 y1.1.Owners.length (y1.1.Owners.flatMap e_api_Owner), .box 29 [.sl 2 y1.1.Users.length, .sl 3 y1.1.Owners.length, I y1.1.Life, B y1.1.Approve]] rfl rfl rfl (st_st ⟨rfl, trivial⟩) (qte_callF [0] (S y19.1) [.box 25 [.d (Sl (eN .i64) y19.2.L), I y19.2.v_at], .box 29 [.d (Sl eS []), .d (Sl e_api_Owner []), I 0, B false], .row 9 1 y1.1.Users.length (y1.1.Users.flatMap eS), .row 155 2 y1.1.Owners.length (y1.1.Owners.flatMap e_api_Owner), .box 29 [.sl 2 y1.1.Users.length, .sl 3 y1.1.Owners.length, I y1.1.Life, B y1.1.Approve]] (callable Tryz.func22 rfl rfl) (c_lanemake_Stream_Some hy19) rfl rfl rfl rfl rfl rfl rfl rfl rfl rfl) ?_
          refine ge_litT hΓ (enc := eS) [y19.1] rfl rfl rfl rfl rfl rfl rfl rfl rfl rfl rfl rfl ?_
          refine ge_q rfl (.inl rfl) (fun _ _ => qte_of_qt (qt_p (op_build hΓ (gs := [S y17.1, .d (Sl eS [y19.1])]) rfl rfl rfl rfl rfl rfl))) ?_
          refine ge_litT hΓ (enc := e_api_Owner) [(⟨y17.1, [y19.1]⟩ : T_api_Owner)] rfl rfl rfl rfl rfl rfl rfl rfl rfl rfl rfl rfl ?_
          obtain ⟨y21, hy21, h22⟩ := bi_ok h20
          refine ge_h [.box 25 [.d (Sl (eN .i64) y19.2.L), I y19.2.v_at], .box 29 [.d (Sl eS []), .d (Sl e_api_Owner []), I 0, B false], .row 9 1 y1.1.Users.length (y1.1.Users.flatMap eS), .dead, .box 29 [.sl 2 y1.1.Users.length, .junk, I y1.1.Life, B y1.1.Approve], .row 155 2 y21.length (y21.flatMap e_api_Owner)] rfl rfl rfl (brk_st rfl) (qte_s (ops_forg 3 (ops_appendT hΓ (enc := e_api_Owner) (id := 3) (h2 := show Γ 155 = some ⟨_, 2, _, _⟩ from rfl) hy21 rfl rfl rfl rfl rfl rfl rfl rfl (fun _ => rfl) rfl))) ?_
          refine go_E hΓ 1 rfl ?_
          refine ge_h0 [.box 25 [.d (Sl (eN .i64) y19.2.L), I y19.2.v_at], .box 29 [.d (Sl eS []), .d (Sl e_api_Owner []), I 0, B false], .row 9 1 y1.1.Users.length (y1.1.Users.flatMap eS), .dead, .box 29 [.sl 2 y1.1.Users.length, .sl 5 y21.length, I y1.1.Life, B y1.1.Approve], .row 155 2 y21.length (y21.flatMap e_api_Owner)] rfl rfl (brk_st rfl) (qte_u (opu_store2 hΓ rfl rfl rfl rfl rfl rfl rfl rfl rfl)) ?_
          refine ge_fin ?_
          refine go hΓ 1 rfl ?_
          refine cv_move 5 3 [.box 25 [.d (Sl (eN .i64) y19.2.L), I y19.2.v_at], .box 29 [.d (Sl eS []), .d (Sl e_api_Owner []), I 0, B false], .row 9 1 y1.1.Users.length (y1.1.Users.flatMap eS), .row 155 2 y21.length (y21.flatMap e_api_Owner), .box 29 [.sl 2 y1.1.Users.length, .sl 3 y21.length, I y1.1.Life, B y1.1.Approve], .dead] rfl rfl rfl rfl rfl rfl ?_
          refine cv_here ?_
          obtain rfl := Option.some.inj h22
          exact ⟨⟨rfl, rfl, trivial⟩, [_], rfl, .inr ⟨HB.mk rfl, FB.mk rfl, (Nat.le_of_ble_eq_true rfl)⟩⟩
        · have h23 := cF h15 hb
          refine go hΓ 6 rfl ?_
          refine j_cond rfl (fun hb => ?_) (fun hb => ?_)
          · have h24 := cT h23 hb
            refine j_drawE [.dead, .dead, .dead, .dead, .box 29 [.sl 2 y1.1.Users.length, .sl 3 y1.1.Owners.length, I y1.1.Life, B y1.1.Approve]] [1] [4, 8] [] hmix (by kernel_rfl) (by kernel_rfl) ⟨rfl, trivial⟩ (Nat.le_of_ble_eq_true rfl) ?_
            refine go_E hΓ 3 rfl ?_
            refine ge_litT hΓ (enc := eS) [[97, 110, 110], [98, 111, 98]] rfl rfl rfl rfl rfl rfl rfl rfl rfl rfl rfl rfl ?_
            obtain ⟨y25, hy25, h26⟩ := bi_ok h24
            refine ge_h [.box 25 [.d (Sl (eN .i64) y25.2.L), I y25.2.v_at], .box 29 [.d (Sl eS []), .d (Sl e_api_Owner []), I 0, B false], .row 9 1 y1.1.Users.length (y1.1.Users.flatMap eS), .row 155 2 y1.1.Owners.length (y1.1.Owners.flatMap e_api_Owner), .box 29 [.sl 2 y1.1.Users.length, .sl 3 y1.1.Owners.length, I y1.1.Life, B y1.1.Approve]] rfl rfl rfl (st_st ⟨rfl, trivial⟩) (qte_callF [0] (S y25.1) [.box 25 [.d (Sl (eN .i64) y25.2.L), I y25.2.v_at], .box 29 [.d (Sl eS []), .d (Sl e_api_Owner []), I 0, B false], .row 9 1 y1.1.Users.length (y1.1.Users.flatMap eS), .row 155 2 y1.1.Owners.length (y1.1.Owners.flatMap e_api_Owner), .box 29 [.sl 2 y1.1.Users.length, .sl 3 y1.1.Owners.length, I y1.1.Life, B y1.1.Approve]] (callable Tryz.func22 rfl rfl) (c_lanemake_Stream_Some hy25) rfl rfl rfl rfl rfl rfl rfl rfl rfl rfl) ?_
            refine ge_litT hΓ (enc := eS) [[98, 111, 98], y25.1] rfl rfl rfl rfl rfl rfl rfl rfl rfl rfl rfl rfl ?_
            obtain ⟨x27, hx27, h28⟩ := bi_ok h26
            have hj29 := getZ_at hx27
            refine ge_q rfl (.inl rfl) (fun _ _ => qte_of_qt (qt_p (op_elemRowZ hΓ hx27 rfl rfl rfl rfl rfl rfl))) ?_
            refine go_E hΓ 1 rfl ?_
            refine ge_h0 [.box 25 [.d (Sl (eN .i64) y25.2.L), I y25.2.v_at], .box 29 [.d (Sl eS []), .d (Sl e_api_Owner []), I 0, B false], .row 9 1 y1.1.Users.length (y1.1.Users.flatMap eS), .row 155 2 (y1.1.Owners.set ((0 : Int).toNat) (⟨x27.Tag, [[98, 111, 98], y25.1]⟩ : T_api_Owner)).length ((y1.1.Owners.set ((0 : Int).toNat) (⟨x27.Tag, [[98, 111, 98], y25.1]⟩ : T_api_Owner)).flatMap e_api_Owner), .box 29 [.sl 2 y1.1.Users.length, .sl 3 y1.1.Owners.length, I y1.1.Life, B y1.1.Approve]] rfl rfl (st_st ⟨rfl, trivial⟩) (qte_u (opu_storeRowZ hΓ (enc := e_api_Owner) (z' := (⟨x27.Tag, [[98, 111, 98], y25.1]⟩ : T_api_Owner)) ((0 : Int).toNat) 1 hj29 rfl rfl rfl rfl (fun _ => rfl) rfl rfl rfl rfl rfl rfl rfl)) ?_
            refine ge_fin ?_
            refine go hΓ 1 rfl ?_
            refine cv_hp [.box 25 [.d (Sl (eN .i64) y25.2.L), I y25.2.v_at], .box 29 [.d (Sl eS []), .d (Sl e_api_Owner []), I 0, B false], .row 9 1 y1.1.Users.length (y1.1.Users.flatMap eS), .row 155 2 (y1.1.Owners.set ((0 : Int).toNat) (⟨x27.Tag, [[98, 111, 98], y25.1]⟩ : T_api_Owner)).length ((y1.1.Owners.set ((0 : Int).toNat) (⟨x27.Tag, [[98, 111, 98], y25.1]⟩ : T_api_Owner)).flatMap e_api_Owner), .box 29 [.sl 2 y1.1.Users.length, .sl 3 (y1.1.Owners.set ((0 : Int).toNat) (⟨x27.Tag, [[98, 111, 98], y25.1]⟩ : T_api_Owner)).length, I y1.1.Life, B y1.1.Approve]] (by simp only [List.length_set]) ?_
            refine cv_here ?_
            obtain rfl := Option.some.inj h28
            exact ⟨⟨rfl, rfl, trivial⟩, [], rfl, .inl rfl⟩
          · have h30 := cF h23 hb
            refine go hΓ 2 rfl ?_
            refine eo_litT hΓ (enc := (eN .i64)) [0, 345686400, 345686401] rfl rfl rfl rfl rfl rfl rfl rfl rfl rfl rfl rfl (Nat.le_of_ble_eq_true rfl) ?_
            obtain ⟨y31, hy31, h32⟩ := bi_ok h30
            refine eo_callF [0] (I y31.1) [.box 25 [.d (Sl (eN .i64) y31.2.L), I y31.2.v_at], .box 29 [.d (Sl eS []), .d (Sl e_api_Owner []), I 0, B false], .row 9 1 y1.1.Users.length (y1.1.Users.flatMap eS), .row 155 2 y1.1.Owners.length (y1.1.Owners.flatMap e_api_Owner), .box 29 [.sl 2 y1.1.Users.length, .sl 3 y1.1.Owners.length, I y1.1.Life, B y1.1.Approve]] (callable Tryz.func13 rfl rfl) (c_lanemake_Stream_Pick hy31) rfl (Nat.le_of_ble_eq_true rfl) rfl rfl rfl rfl rfl rfl rfl rfl rfl rfl ?_
            refine go_ops hΓ 1 rfl ?_
            refine eo_store hΓ rfl rfl rfl rfl rfl rfl rfl rfl (Nat.le_of_ble_eq_true rfl) ?_
            refine eo_hp [.box 25 [.d (Sl (eN .i64) y31.2.L), I y31.2.v_at], .box 29 [.d (Sl eS []), .d (Sl e_api_Owner []), I 0, B false], .row 9 1 y1.1.Users.length (y1.1.Users.flatMap eS), .row 155 2 y1.1.Owners.length (y1.1.Owners.flatMap e_api_Owner), .box 29 [.sl 2 y1.1.Users.length, .sl 3 y1.1.Owners.length, I y31.1, B y1.1.Approve]] rfl ?_
            refine go_ops hΓ 2 rfl ?_
            refine cv_here ?_
            obtain rfl := Option.some.inj h32
            exact ⟨⟨rfl, rfl, trivial⟩, [], rfl, .inl rfl⟩
    · have h33 := cF hq5 hb
      refine go hΓ 1 rfl ?_
      refine cv_here ?_
      obtain rfl := Option.some.inj h33
      exact ⟨⟨rfl, rfl, trivial⟩, [], rfl, .inl rfl⟩
  · refine go hΓ 4 rfl ?_
    refine eo_shr 2 [49] _ [.box 25 [.d (Sl (eN .i64) q5.1.L), I q5.1.v_at], .box 29 [.d (Sl eS []), .d (Sl e_api_Owner []), I 0, B false], .dead, .row 155 2 q5.2.2.1.length (q5.2.2.1.flatMap e_api_Owner), .box 29 [.d (Sl eS q5.2.1), .sl 3 q5.2.2.1.length, I q5.2.2.2, B y1.1.Approve]] rfl rfl rfl (Nat.le_of_ble_eq_true rfl) ?_
    refine eo_shr 3 [49] _ [.box 25 [.d (Sl (eN .i64) q5.1.L), I q5.1.v_at], .box 29 [.d (Sl eS []), .d (Sl e_api_Owner []), I 0, B false], .dead, .dead, .box 29 [.d (Sl eS q5.2.1), .d (Sl e_api_Owner q5.2.2.1), I q5.2.2.2, B y1.1.Approve]] rfl rfl rfl (Nat.le_of_ble_eq_true rfl) ?_
    refine eo_store hΓ rfl rfl rfl rfl rfl rfl rfl rfl (Nat.le_of_ble_eq_true rfl) ?_
    refine eo_hp [.box 25 [.d (Sl (eN .i64) q5.1.L), I q5.1.v_at], .box 29 [.d (Sl eS q5.2.1), .d (Sl e_api_Owner q5.2.2.1), I q5.2.2.2, B y1.1.Approve], .dead, .dead, .box 29 [.d (Sl eS q5.2.1), .d (Sl e_api_Owner q5.2.2.1), I q5.2.2.2, B y1.1.Approve]] rfl ?_
    refine go_ops hΓ 3 rfl ?_
    obtain rfl := Option.some.inj h6
    exact fin_objs hΓ [_, _, _, _] (.inr rfl) rfl rfl rfl rfl (.inr ⟨HB.mk rfl, rfl⟩)
theorem c_lanemake_Stream_User {s : T_lanemake_Stream} {r : Str × T_lanemake_Stream} (h : m_lanemake_Stream_User s = some r) : EC Tryz.prog 21 [.ptr 0 0] [.box 25 [.d (Sl (eN .i64) s.L), I s.v_at]] fun g hp' => g = S r.1 ∧ hp' = [.box 25 [.d (Sl (eN .i64) r.2.L), I r.2.v_at]] := by
  refine ec_enter (Fr.of 0 _) Tryz.func21 rfl (Fr.of_ok _) (Nat.le_of_ble_eq_true rfl) fun _ => ?_
  refine go_in ?_
  unfold m_lanemake_Stream_User at h
  refine go hΓ 8 rfl ?_
  refine eo_litT hΓ (enc := eS) [[97, 110, 110], [97, 110, 110], [97, 110, 110], [98, 111, 98], [99, 105, 100], [122, 101, 100]] rfl rfl rfl rfl rfl rfl rfl rfl rfl rfl rfl rfl (Nat.le_of_ble_eq_true rfl) ?_
  obtain ⟨y1, hy1, h2⟩ := bi_ok h
  refine eo_callF [0] (S y1.1) [.box 25 [.d (Sl (eN .i64) y1.2.L), I y1.2.v_at]] (callable Tryz.func22 rfl rfl) (c_lanemake_Stream_Some hy1) rfl (Nat.le_of_ble_eq_true rfl) rfl rfl rfl rfl rfl rfl rfl rfl rfl rfl ?_
  refine go_ops hΓ 4 rfl ?_
  obtain rfl := Option.some.inj h2
  exact fin_objs hΓ [] (.inr rfl) rfl rfl rfl rfl (.inl rfl)
theorem c_lanemake_Stream_tags {s : T_lanemake_Stream} {r : (List Str) × T_lanemake_Stream} (h : m_lanemake_Stream_tags s = some r) : EC Tryz.prog 84 [.ptr 0 0] [.box 25 [.d (Sl (eN .i64) s.L), I s.v_at]] fun g hp' => g = .d (Sl eS r.1) ∧ hp' = [.box 25 [.d (Sl (eN .i64) r.2.L), I r.2.v_at]] := by
  refine ec_enter (Fr.of 0 _) Tryz.func84 rfl (Fr.of_ok _) (Nat.le_of_ble_eq_true rfl) fun _ => ?_
  refine go_in ?_
  unfold m_lanemake_Stream_tags at h
  refine go hΓ 7 rfl ?_
  refine eo_litT hΓ (enc := eS) [[119, 101, 98]] rfl rfl rfl rfl rfl rfl rfl rfl rfl rfl rfl rfl (Nat.le_of_ble_eq_true rfl) ?_
  refine eo_litT hΓ (enc := eS) [[119, 101, 98]] rfl rfl rfl rfl rfl rfl rfl rfl rfl rfl rfl rfl (Nat.le_of_ble_eq_true rfl) ?_
  refine eo_litT hΓ (enc := eS) [[100, 98]] rfl rfl rfl rfl rfl rfl rfl rfl rfl rfl rfl rfl (Nat.le_of_ble_eq_true rfl) ?_
  refine eo_litT hΓ (enc := eS) [[100, 98], [119, 101, 98]] rfl rfl rfl rfl rfl rfl rfl rfl rfl rfl rfl rfl (Nat.le_of_ble_eq_true rfl) ?_
  refine eo_litT hΓ (enc := eS) [[110, 111, 110, 101]] rfl rfl rfl rfl rfl rfl rfl rfl rfl rfl rfl rfl (Nat.le_of_ble_eq_true rfl) ?_
  refine eo_litT hΓ (enc := (eL eS)) [[], [[119, 101, 98]], [[119, 101, 98]], [[100, 98]], [[100, 98], [119, 101, 98]], [[110, 111, 110, 101]]] rfl rfl rfl rfl rfl rfl rfl rfl rfl rfl rfl rfl (Nat.le_of_ble_eq_true rfl) ?_
  obtain ⟨y1, hy1, h2⟩ := bi_ok h
  refine go_ops hΓ 1 rfl ?_
  refine eo_callF [0] (I y1.1) [.box 25 [.d (Sl (eN .i64) y1.2.L), I y1.2.v_at]] (callable Tryz.func26 rfl rfl) (c_lanemake_Stream_Next hy1) rfl (Nat.le_of_ble_eq_true rfl) rfl rfl rfl rfl rfl rfl rfl rfl rfl rfl ?_
  obtain ⟨x3, hx3, h4⟩ := bi_ok h2
  refine eo_o rfl (op_elemZ hΓ (enc := (eL eS)) hx3 rfl rfl rfl rfl rfl (fun _ => rfl)) ?_
  refine go_ops hΓ 5 rfl ?_
  obtain rfl := Option.some.inj h4
  exact fin_objs hΓ [] (.inr rfl) rfl rfl rfl rfl (.inl rfl)
set_option maxHeartbeats 8000000 in
theorem c_lanemake_Stream_OneStep {s : T_lanemake_Stream} {v_at : Int} {r : T_api_Step × T_lanemake_Stream} (h : m_lanemake_Stream_OneStep s v_at = some r) : EC Tryz.prog 12 [.ptr 0 0, I v_at] [.box 25 [.d (Sl (eN .i64) s.L), I s.v_at]] fun g hp' => g = .agg [I r.1.At, S r.1.Server, I r.1.No, I r.1.Kind, S r.1.By, S r.1.Node, S r.1.Join, S r.1.Public, S r.1.Name, .d (Sl eS r.1.Tags), I r.1.Until, I r.1.Uses, B r.1.Ready] ∧ hp' = [.box 25 [.d (Sl (eN .i64) r.2.L), I r.2.v_at]] := by
  refine ec_enter (Fr.of 0 _) Tryz.func12 rfl (Fr.of_ok _) (Nat.le_of_ble_eq_true rfl) fun _ => ?_
  refine go_in ?_
  unfold m_lanemake_Stream_OneStep at h
  refine go hΓ 2 rfl ?_
  refine eo_alloc hΓ rfl rfl rfl (Nat.le_of_ble_eq_true rfl) ?_
  refine go_ops hΓ 6 rfl ?_
  refine eo_litT hΓ (enc := eS) [[115, 49], [115, 49], [115, 50]] rfl rfl rfl rfl rfl rfl rfl rfl rfl rfl rfl rfl (Nat.le_of_ble_eq_true rfl) ?_
  obtain ⟨y1, hy1, h2⟩ := bi_ok h
  refine eo_callF [0] (S y1.1) [.box 25 [.d (Sl (eN .i64) y1.2.L), I y1.2.v_at], .box 37 [I 0, S [], I 0, I 0, S [], S [], S [], S [], S [], .d (Sl eS []), I 0, I 0, B false]] (callable Tryz.func22 rfl rfl) (c_lanemake_Stream_Some hy1) rfl (Nat.le_of_ble_eq_true rfl) rfl rfl rfl rfl rfl rfl rfl rfl rfl rfl ?_
  refine go_ops hΓ 1 rfl ?_
  refine eo_litT hΓ (enc := (eN .i64)) [1, 2, 3, 3, 3, 3, 3, 4, 5, 5, 6, 7, 7, 8, 9] rfl rfl rfl rfl rfl rfl rfl rfl rfl rfl rfl rfl (Nat.le_of_ble_eq_true rfl) ?_
  obtain ⟨y3, hy3, h4⟩ := bi_ok h2
  refine eo_callF [0] (I y3.1) [.box 25 [.d (Sl (eN .i64) y3.2.L), I y3.2.v_at], .box 37 [I 0, S [], I 0, I 0, S [], S [], S [], S [], S [], .d (Sl eS []), I 0, I 0, B false]] (callable Tryz.func13 rfl rfl) (c_lanemake_Stream_Pick hy3) rfl (Nat.le_of_ble_eq_true rfl) rfl rfl rfl rfl rfl rfl rfl rfl rfl rfl ?_
  obtain ⟨y5, hy5, h6⟩ := bi_ok h4
  refine go_ops hΓ 1 rfl ?_
  refine eo_callF [0] (S y5.1) [.box 25 [.d (Sl (eN .i64) y5.2.L), I y5.2.v_at], .box 37 [I 0, S [], I 0, I 0, S [], S [], S [], S [], S [], .d (Sl eS []), I 0, I 0, B false]] (callable Tryz.func21 rfl rfl) (c_lanemake_Stream_User hy5) rfl (Nat.le_of_ble_eq_true rfl) rfl rfl rfl rfl rfl rfl rfl rfl rfl rfl ?_
  refine eo_build hΓ (gs := [I v_at, S y1.1, I 0, I y3.1, S y5.1, S [], S [], S [], S [], .d (Sl eS []), I 0, I 0, B false]) rfl rfl rfl rfl rfl rfl rfl ?_
  refine eo_alloc hΓ rfl rfl rfl (Nat.le_of_ble_eq_true rfl) ?_
  refine eo_store hΓ rfl rfl rfl rfl rfl rfl rfl rfl (Nat.le_of_ble_eq_true rfl) ?_
  refine eo_hp [.box 25 [.d (Sl (eN .i64) y5.2.L), I y5.2.v_at], .box 37 [I 0, S [], I 0, I 0, S [], S [], S [], S [], S [], .d (Sl eS []), I 0, I 0, B false], .box 37 [I v_at, S y1.1, I 0, I y3.1, S y5.1, S [], S [], S [], S [], .d (Sl eS []), I 0, I 0, B false]] rfl ?_
  refine go_ops hΓ 5 rfl ?_
  refine eo_litT hΓ (enc := eS) [[110, 97], [110, 97], [110, 98], [110, 98], [110, 99], [110, 100]] rfl rfl rfl rfl rfl rfl rfl rfl rfl rfl rfl rfl (Nat.le_of_ble_eq_true rfl) ?_
  obtain ⟨y7, hy7, h8⟩ := bi_ok h6
  refine eo_callF [0] (S y7.1) [.box 25 [.d (Sl (eN .i64) y7.2.L), I y7.2.v_at], .box 37 [I 0, S [], I 0, I 0, S [], S [], S [], S [], S [], .d (Sl eS []), I 0, I 0, B false], .box 37 [I v_at, S y1.1, I 0, I y3.1, S y5.1, S [], S [], S [], S [], .d (Sl eS []), I 0, I 0, B false]] (callable Tryz.func22 rfl rfl) (c_lanemake_Stream_Some hy7) rfl (Nat.le_of_ble_eq_true rfl) rfl rfl rfl rfl rfl rfl rfl rfl rfl rfl ?_
  refine go_ops hΓ 6 rfl ?_
  refine eo_litT hΓ (enc := eS) [[107, 49], [107, 49], [107, 50]] rfl rfl rfl rfl rfl rfl rfl rfl rfl rfl rfl rfl (Nat.le_of_ble_eq_true rfl) ?_
  obtain ⟨y9, hy9, h10⟩ := bi_ok h8
  refine eo_callF [0] (S y9.1) [.box 25 [.d (Sl (eN .i64) y9.2.L), I y9.2.v_at], .box 37 [I 0, S [], I 0, I 0, S [], S [], S [], S [], S [], .d (Sl eS []), I 0, I 0, B false], .box 37 [I v_at, S y1.1, I 0, I y3.1, S y5.1, S [], S [], S [], S [], .d (Sl eS []), I 0, I 0, B false]] (callable Tryz.func22 rfl rfl) (c_lanemake_Stream_Some hy9) rfl (Nat.le_of_ble_eq_true rfl) rfl rfl rfl rfl rfl rfl rfl rfl rfl rfl ?_
  refine go_ops hΓ 6 rfl ?_
  refine eo_litT hΓ (enc := eS) [[48, 97], [48, 98], [48, 99], [48, 100], [48, 101], [49, 97], [49, 98]] rfl rfl rfl rfl rfl rfl rfl rfl rfl rfl rfl rfl (Nat.le_of_ble_eq_true rfl) ?_
  obtain ⟨y11, hy11, h12⟩ := bi_ok h10
  refine eo_callF [0] (S y11.1) [.box 25 [.d (Sl (eN .i64) y11.2.L), I y11.2.v_at], .box 37 [I 0, S [], I 0, I 0, S [], S [], S [], S [], S [], .d (Sl eS []), I 0, I 0, B false], .box 37 [I v_at, S y1.1, I 0, I y3.1, S y5.1, S [], S [], S [], S [], .d (Sl eS []), I 0, I 0, B false]] (callable Tryz.func22 rfl rfl) (c_lanemake_Stream_Some hy11) rfl (Nat.le_of_ble_eq_true rfl) rfl rfl rfl rfl rfl rfl rfl rfl rfl rfl ?_
  obtain ⟨q13, hq13, h14⟩ := bi_ok h12
  refine go_ops hΓ 10 rfl ?_
  refine j_cutNZ [(4, .ptr 1 0), (5, .ptr 2 0)] [.box 25 [.d (Sl (eN .i64) q13.1.L), I q13.1.v_at], .box 37 [I 0, S [], I 0, I 0, S [], S [], S [], S [], S [], .d (Sl eS []), I 0, I 0, B false], .box 37 [I q13.2.At, S q13.2.Server, I q13.2.No, I q13.2.Kind, S q13.2.By, S q13.2.Node, S q13.2.Join, S q13.2.Public, S q13.2.Name, .d (Sl eS q13.2.Tags), I q13.2.Until, I q13.2.Uses, B q13.2.Ready]] ?_ ?_
  · refine go hΓ 7 rfl ?_
    refine j_cond rfl (fun hb => ?_) (fun hb => ?_)
    · have h15 := cT hq13 hb
      obtain ⟨y16, hy16, h17⟩ := bi_ok h15
      refine go hΓ 3 rfl ?_
      refine eo_callF [0] (.d (Sl eS y16.1)) [.box 25 [.d (Sl (eN .i64) y16.2.L), I y16.2.v_at], .box 37 [I 0, S [], I 0, I 0, S [], S [], S [], S [], S [], .d (Sl eS []), I 0, I 0, B false], .box 37 [I v_at, S y1.1, I 0, I y3.1, S y5.1, S [], S [], S [], S [], .d (Sl eS []), I 0, I 0, B false]] (callable Tryz.func84 rfl rfl) (c_lanemake_Stream_tags hy16) rfl (Nat.le_of_ble_eq_true rfl) rfl rfl rfl rfl rfl rfl rfl rfl rfl rfl ?_
      refine go_ops hΓ 2 rfl ?_
      refine eo_litT hΓ (enc := (eN .i64)) [0, 5, 50, 200] rfl rfl rfl rfl rfl rfl rfl rfl rfl rfl rfl rfl (Nat.le_of_ble_eq_true rfl) ?_
      obtain ⟨y18, hy18, h19⟩ := bi_ok h17
      refine eo_callF [0] (I y18.1) [.box 25 [.d (Sl (eN .i64) y18.2.L), I y18.2.v_at], .box 37 [I 0, S [], I 0, I 0, S [], S [], S [], S [], S [], .d (Sl eS []), I 0, I 0, B false], .box 37 [I v_at, S y1.1, I 0, I y3.1, S y5.1, S [], S [], S [], S [], .d (Sl eS []), I 0, I 0, B false]] (callable Tryz.func13 rfl rfl) (c_lanemake_Stream_Pick hy18) rfl (Nat.le_of_ble_eq_true rfl) rfl rfl rfl rfl rfl rfl rfl rfl rfl rfl ?_
      refine go_ops hΓ 2 rfl ?_
      refine eo_litT hΓ (enc := (eN .i64)) [0, 1, 2, 1000, 1001] rfl rfl rfl rfl rfl rfl rfl rfl rfl rfl rfl rfl (Nat.le_of_ble_eq_true rfl) ?_
      obtain ⟨y20, hy20, h21⟩ := bi_ok h19
      refine eo_callF [0] (I y20.1) [.box 25 [.d (Sl (eN .i64) y20.2.L), I y20.2.v_at], .box 37 [I 0, S [], I 0, I 0, S [], S [], S [], S [], S [], .d (Sl eS []), I 0, I 0, B false], .box 37 [I v_at, S y1.1, I 0, I y3.1, S y5.1, S [], S [], S [], S [], .d (Sl eS []), I 0, I 0, B false]] (callable Tryz.func13 rfl rfl) (c_lanemake_Stream_Pick hy20) rfl (Nat.le_of_ble_eq_true rfl) rfl rfl rfl rfl rfl rfl rfl rfl rfl rfl ?_
      obtain ⟨y22, hy22, h23⟩ := bi_ok h21
      refine go_ops hΓ 1 rfl ?_
      refine eo_callF [0] (B y22.1) [.box 25 [.d (Sl (eN .i64) y22.2.L), I y22.2.v_at], .box 37 [I 0, S [], I 0, I 0, S [], S [], S [], S [], S [], .d (Sl eS []), I 0, I 0, B false], .box 37 [I v_at, S y1.1, I 0, I y3.1, S y5.1, S [], S [], S [], S [], .d (Sl eS []), I 0, I 0, B false]] (callable Tryz.func24 rfl rfl) (c_lanemake_Stream_Flip hy22) rfl (Nat.le_of_ble_eq_true rfl) rfl rfl rfl rfl rfl rfl rfl rfl rfl rfl ?_
      refine go_ops hΓ 1 rfl ?_
      refine eo_store hΓ rfl rfl rfl rfl rfl rfl rfl rfl (Nat.le_of_ble_eq_true rfl) ?_
      refine eo_hp [.box 25 [.d (Sl (eN .i64) y22.2.L), I y22.2.v_at], .box 37 [I 0, S [], I 0, I 0, S [], S [], S [], S [], S [], .d (Sl eS []), I 0, I 0, B false], .box 37 [I v_at, S y1.1, I 0, I y3.1, S y5.1, S [], S y9.1, S [], S [], .d (Sl eS []), I 0, I 0, B false]] rfl ?_
      refine go_ops hΓ 1 rfl ?_
      refine eo_store hΓ rfl rfl rfl rfl rfl rfl rfl rfl (Nat.le_of_ble_eq_true rfl) ?_
      refine eo_hp [.box 25 [.d (Sl (eN .i64) y22.2.L), I y22.2.v_at], .box 37 [I 0, S [], I 0, I 0, S [], S [], S [], S [], S [], .d (Sl eS []), I 0, I 0, B false], .box 37 [I v_at, S y1.1, I 0, I y3.1, S y5.1, S [], S y9.1, S [], S [], .d (Sl eS y16.1), I 0, I 0, B false]] rfl ?_
      refine go_ops hΓ 1 rfl ?_
      refine eo_store hΓ rfl rfl rfl rfl rfl rfl rfl rfl (Nat.le_of_ble_eq_true rfl) ?_
      refine eo_hp [.box 25 [.d (Sl (eN .i64) y22.2.L), I y22.2.v_at], .box 37 [I 0, S [], I 0, I 0, S [], S [], S [], S [], S [], .d (Sl eS []), I 0, I 0, B false], .box 37 [I v_at, S y1.1, I 0, I y3.1, S y5.1, S [], S y9.1, S [], S [], .d (Sl eS y16.1), I (wi (v_at + y18.1)), I 0, B false]] rfl ?_
      refine go_ops hΓ 1 rfl ?_
      refine eo_store hΓ rfl rfl rfl rfl rfl rfl rfl rfl (Nat.le_of_ble_eq_true rfl) ?_
      refine eo_hp [.box 25 [.d (Sl (eN .i64) y22.2.L), I y22.2.v_at], .box 37 [I 0, S [], I 0, I 0, S [], S [], S [], S [], S [], .d (Sl eS []), I 0, I 0, B false], .box 37 [I v_at, S y1.1, I 0, I y3.1, S y5.1, S [], S y9.1, S [], S [], .d (Sl eS y16.1), I (wi (v_at + y18.1)), I y20.1, B false]] rfl ?_
      refine go_ops hΓ 1 rfl ?_
      refine eo_store hΓ rfl rfl rfl rfl rfl rfl rfl rfl (Nat.le_of_ble_eq_true rfl) ?_
      refine eo_hp [.box 25 [.d (Sl (eN .i64) y22.2.L), I y22.2.v_at], .box 37 [I 0, S [], I 0, I 0, S [], S [], S [], S [], S [], .d (Sl eS []), I 0, I 0, B false], .box 37 [I v_at, S y1.1, I 0, I y3.1, S y5.1, S [], S y9.1, S [], S [], .d (Sl eS y16.1), I (wi (v_at + y18.1)), I y20.1, B y22.1]] rfl ?_
      refine go_ops hΓ 2 rfl ?_
      obtain rfl := Option.some.inj h23
      exact ⟨⟨rfl, rfl, trivial⟩, [], rfl, .inl rfl⟩
    · have h24 := cF hq13 hb
      refine go hΓ 6 rfl ?_
      refine j_cond rfl (fun hb => ?_) (fun hb => ?_)
      · have h25 := cT h24 hb
        refine go hΓ 3 rfl ?_
        refine eo_store hΓ rfl rfl rfl rfl rfl rfl rfl rfl (Nat.le_of_ble_eq_true rfl) ?_
        refine eo_hp [.box 25 [.d (Sl (eN .i64) y11.2.L), I y11.2.v_at], .box 37 [I 0, S [], I 0, I 0, S [], S [], S [], S [], S [], .d (Sl eS []), I 0, I 0, B false], .box 37 [I v_at, S y1.1, I 0, I y3.1, S y5.1, S [], S y9.1, S [], S [], .d (Sl eS []), I 0, I 0, B false]] rfl ?_
        refine go_ops hΓ 2 rfl ?_
        obtain rfl := Option.some.inj h25
        exact ⟨⟨rfl, rfl, trivial⟩, [], rfl, .inl rfl⟩
      · have h26 := cF h24 hb
        refine go hΓ 6 rfl ?_
        refine j_cond rfl (fun hb => ?_) (fun hb => ?_)
        · have h27 := cT h26 hb
          refine go hΓ 6 rfl ?_
          refine eo_litT hΓ (enc := eS) [y7.1, [98, 111, 120], [98, 111, 120], [119, 101, 98]] rfl rfl rfl rfl rfl rfl rfl rfl rfl rfl rfl rfl (Nat.le_of_ble_eq_true rfl) ?_
          obtain ⟨y28, hy28, h29⟩ := bi_ok h27
          refine eo_callF [0] (S y28.1) [.box 25 [.d (Sl (eN .i64) y28.2.L), I y28.2.v_at], .box 37 [I 0, S [], I 0, I 0, S [], S [], S [], S [], S [], .d (Sl eS []), I 0, I 0, B false], .box 37 [I v_at, S y1.1, I 0, I y3.1, S y5.1, S [], S [], S [], S [], .d (Sl eS []), I 0, I 0, B false]] (callable Tryz.func22 rfl rfl) (c_lanemake_Stream_Some hy28) rfl (Nat.le_of_ble_eq_true rfl) rfl rfl rfl rfl rfl rfl rfl rfl rfl rfl ?_
          refine go_ops hΓ 1 rfl ?_
          refine eo_store hΓ rfl rfl rfl rfl rfl rfl rfl rfl (Nat.le_of_ble_eq_true rfl) ?_
          refine eo_hp [.box 25 [.d (Sl (eN .i64) y28.2.L), I y28.2.v_at], .box 37 [I 0, S [], I 0, I 0, S [], S [], S [], S [], S [], .d (Sl eS []), I 0, I 0, B false], .box 37 [I v_at, S y1.1, I 0, I y3.1, S y5.1, S y7.1, S [], S [], S [], .d (Sl eS []), I 0, I 0, B false]] rfl ?_
          refine go_ops hΓ 1 rfl ?_
          refine eo_store hΓ rfl rfl rfl rfl rfl rfl rfl rfl (Nat.le_of_ble_eq_true rfl) ?_
          refine eo_hp [.box 25 [.d (Sl (eN .i64) y28.2.L), I y28.2.v_at], .box 37 [I 0, S [], I 0, I 0, S [], S [], S [], S [], S [], .d (Sl eS []), I 0, I 0, B false], .box 37 [I v_at, S y1.1, I 0, I y3.1, S y5.1, S y7.1, S [], S y11.1, S [], .d (Sl eS []), I 0, I 0, B false]] rfl ?_
          refine go_ops hΓ 1 rfl ?_
          refine eo_store hΓ rfl rfl rfl rfl rfl rfl rfl rfl (Nat.le_of_ble_eq_true rfl) ?_
          refine eo_hp [.box 25 [.d (Sl (eN .i64) y28.2.L), I y28.2.v_at], .box 37 [I 0, S [], I 0, I 0, S [], S [], S [], S [], S [], .d (Sl eS []), I 0, I 0, B false], .box 37 [I v_at, S y1.1, I 0, I y3.1, S y5.1, S y7.1, S [], S y11.1, S y28.1, .d (Sl eS []), I 0, I 0, B false]] rfl ?_
          obtain ⟨y30, hy30, h31⟩ := bi_ok h29
          refine go_ops hΓ 5 rfl ?_
          refine eo_callF [0] (B y30.1) [.box 25 [.d (Sl (eN .i64) y30.2.L), I y30.2.v_at], .box 37 [I 0, S [], I 0, I 0, S [], S [], S [], S [], S [], .d (Sl eS []), I 0, I 0, B false], .box 37 [I v_at, S y1.1, I 0, I y3.1, S y5.1, S y7.1, S [], S y11.1, S y28.1, .d (Sl eS []), I 0, I 0, B false]] (callable Tryz.func24 rfl rfl) (c_lanemake_Stream_Flip hy30) rfl (Nat.le_of_ble_eq_true rfl) rfl rfl rfl rfl rfl rfl rfl rfl rfl rfl ?_
          refine go_ops hΓ 2 rfl ?_
          refine j_cond rfl (fun hb => ?_) (fun hb => ?_)
          · have h32 := cT h31 hb
            refine go hΓ 4 rfl ?_
            refine eo_store hΓ rfl rfl rfl rfl rfl rfl rfl rfl (Nat.le_of_ble_eq_true rfl) ?_
            refine eo_hp [.box 25 [.d (Sl (eN .i64) y30.2.L), I y30.2.v_at], .box 37 [I 0, S [], I 0, I 0, S [], S [], S [], S [], S [], .d (Sl eS []), I 0, I 0, B false], .box 37 [I v_at, S y1.1, I 0, I y3.1, S y5.1, S y7.1, S y9.1, S y11.1, S y28.1, .d (Sl eS []), I 0, I 0, B false]] rfl ?_
            obtain ⟨y33, hy33, h34⟩ := bi_ok h32
            refine go_ops hΓ 5 rfl ?_
            refine eo_callF [0] (B y33.1) [.box 25 [.d (Sl (eN .i64) y33.2.L), I y33.2.v_at], .box 37 [I 0, S [], I 0, I 0, S [], S [], S [], S [], S [], .d (Sl eS []), I 0, I 0, B false], .box 37 [I v_at, S y1.1, I 0, I y3.1, S y5.1, S y7.1, S y9.1, S y11.1, S y28.1, .d (Sl eS []), I 0, I 0, B false]] (callable Tryz.func24 rfl rfl) (c_lanemake_Stream_Flip hy33) rfl (Nat.le_of_ble_eq_true rfl) rfl rfl rfl rfl rfl rfl rfl rfl rfl rfl ?_
            refine go_ops hΓ 3 rfl ?_
            refine j_cond rfl (fun hb => ?_) (fun hb => ?_)
            · have h35 := cT h34 hb
              refine go hΓ 2 rfl ?_
              refine eo_store hΓ rfl rfl rfl rfl rfl rfl rfl rfl (Nat.le_of_ble_eq_true rfl) ?_
              refine eo_hp [.box 25 [.d (Sl (eN .i64) y33.2.L), I y33.2.v_at], .box 37 [I 0, S [], I 0, I 0, S [], S [], S [], S [], S [], .d (Sl eS []), I 0, I 0, B false], .box 37 [I v_at, S y1.1, I 0, I y3.1, S [], S y7.1, S y9.1, S y11.1, S y28.1, .d (Sl eS []), I 0, I 0, B false]] rfl ?_
              refine go_ops hΓ 2 rfl ?_
              obtain rfl := Option.some.inj h35
              exact ⟨⟨rfl, rfl, trivial⟩, [], rfl, .inl rfl⟩
            · have h36 := cF h34 hb
              refine go hΓ 2 rfl ?_
              obtain rfl := Option.some.inj h36
              exact ⟨⟨rfl, rfl, trivial⟩, [], rfl, .inl rfl⟩
          · have h37 := cF h31 hb
            refine go hΓ 2 rfl ?_
            obtain rfl := Option.some.inj h37
            exact ⟨⟨rfl, rfl, trivial⟩, [], rfl, .inl rfl⟩
        · have h38 := cF h26 hb
          refine go hΓ 6 rfl ?_
          refine j_cond rfl (fun hb => ?_) (fun hb => ?_)
          · have h39 := cT h38 hb
            refine go hΓ 4 rfl ?_
            refine eo_store hΓ rfl rfl rfl rfl rfl rfl rfl rfl (Nat.le_of_ble_eq_true rfl) ?_
            refine eo_hp [.box 25 [.d (Sl (eN .i64) y11.2.L), I y11.2.v_at], .box 37 [I 0, S [], I 0, I 0, S [], S [], S [], S [], S [], .d (Sl eS []), I 0, I 0, B false], .box 37 [I v_at, S y1.1, I 0, I y3.1, S y5.1, S y7.1, S [], S [], S [], .d (Sl eS []), I 0, I 0, B false]] rfl ?_
            refine go_ops hΓ 1 rfl ?_
            refine eo_store hΓ rfl rfl rfl rfl rfl rfl rfl rfl (Nat.le_of_ble_eq_true rfl) ?_
            refine eo_hp [.box 25 [.d (Sl (eN .i64) y11.2.L), I y11.2.v_at], .box 37 [I 0, S [], I 0, I 0, S [], S [], S [], S [], S [], .d (Sl eS []), I 0, I 0, B false], .box 37 [I v_at, S y1.1, I 0, I y3.1, S y5.1, S y7.1, S [], S y11.1, S [], .d (Sl eS []), I 0, I 0, B false]] rfl ?_
            refine go_ops hΓ 2 rfl ?_
            obtain rfl := Option.some.inj h39
            exact ⟨⟨rfl, rfl, trivial⟩, [], rfl, .inl rfl⟩
          · have h40 := cF h38 hb
            refine go hΓ 6 rfl ?_
            refine j_cond rfl (fun hb => ?_) (fun hb => ?_)
            · have h41 := cT h40 hb
              refine go hΓ 3 rfl ?_
              refine eo_litT hΓ (enc := eS) [[98, 111, 120], [119, 101, 98], [109, 97, 99]] rfl rfl rfl rfl rfl rfl rfl rfl rfl rfl rfl rfl (Nat.le_of_ble_eq_true rfl) ?_
              obtain ⟨y42, hy42, h43⟩ := bi_ok h41
              refine eo_callF [0] (S y42.1) [.box 25 [.d (Sl (eN .i64) y42.2.L), I y42.2.v_at], .box 37 [I 0, S [], I 0, I 0, S [], S [], S [], S [], S [], .d (Sl eS []), I 0, I 0, B false], .box 37 [I v_at, S y1.1, I 0, I y3.1, S y5.1, S [], S [], S [], S [], .d (Sl eS []), I 0, I 0, B false]] (callable Tryz.func22 rfl rfl) (c_lanemake_Stream_Some hy42) rfl (Nat.le_of_ble_eq_true rfl) rfl rfl rfl rfl rfl rfl rfl rfl rfl rfl ?_
              refine go_ops hΓ 1 rfl ?_
              refine eo_store hΓ rfl rfl rfl rfl rfl rfl rfl rfl (Nat.le_of_ble_eq_true rfl) ?_
              refine eo_hp [.box 25 [.d (Sl (eN .i64) y42.2.L), I y42.2.v_at], .box 37 [I 0, S [], I 0, I 0, S [], S [], S [], S [], S [], .d (Sl eS []), I 0, I 0, B false], .box 37 [I v_at, S y1.1, I 0, I y3.1, S y5.1, S y7.1, S [], S [], S [], .d (Sl eS []), I 0, I 0, B false]] rfl ?_
              refine go_ops hΓ 1 rfl ?_
              refine eo_store hΓ rfl rfl rfl rfl rfl rfl rfl rfl (Nat.le_of_ble_eq_true rfl) ?_
              refine eo_hp [.box 25 [.d (Sl (eN .i64) y42.2.L), I y42.2.v_at], .box 37 [I 0, S [], I 0, I 0, S [], S [], S [], S [], S [], .d (Sl eS []), I 0, I 0, B false], .box 37 [I v_at, S y1.1, I 0, I y3.1, S y5.1, S y7.1, S [], S [], S y42.1, .d (Sl eS []), I 0, I 0, B false]] rfl ?_
              refine go_ops hΓ 2 rfl ?_
              obtain rfl := Option.some.inj h43
              exact ⟨⟨rfl, rfl, trivial⟩, [], rfl, .inl rfl⟩
            · have h44 := cF h40 hb
              refine go hΓ 6 rfl ?_
              refine j_cond rfl (fun hb => ?_) (fun hb => ?_)
              · have h45 := cT h44 hb
                obtain ⟨y46, hy46, h47⟩ := bi_ok h45
                refine go hΓ 3 rfl ?_
                refine eo_callF [0] (.d (Sl eS y46.1)) [.box 25 [.d (Sl (eN .i64) y46.2.L), I y46.2.v_at], .box 37 [I 0, S [], I 0, I 0, S [], S [], S [], S [], S [], .d (Sl eS []), I 0, I 0, B false], .box 37 [I v_at, S y1.1, I 0, I y3.1, S y5.1, S [], S [], S [], S [], .d (Sl eS []), I 0, I 0, B false]] (callable Tryz.func84 rfl rfl) (c_lanemake_Stream_tags hy46) rfl (Nat.le_of_ble_eq_true rfl) rfl rfl rfl rfl rfl rfl rfl rfl rfl rfl ?_
                refine go_ops hΓ 1 rfl ?_
                refine eo_store hΓ rfl rfl rfl rfl rfl rfl rfl rfl (Nat.le_of_ble_eq_true rfl) ?_
                refine eo_hp [.box 25 [.d (Sl (eN .i64) y46.2.L), I y46.2.v_at], .box 37 [I 0, S [], I 0, I 0, S [], S [], S [], S [], S [], .d (Sl eS []), I 0, I 0, B false], .box 37 [I v_at, S y1.1, I 0, I y3.1, S y5.1, S y7.1, S [], S [], S [], .d (Sl eS []), I 0, I 0, B false]] rfl ?_
                refine go_ops hΓ 1 rfl ?_
                refine eo_store hΓ rfl rfl rfl rfl rfl rfl rfl rfl (Nat.le_of_ble_eq_true rfl) ?_
                refine eo_hp [.box 25 [.d (Sl (eN .i64) y46.2.L), I y46.2.v_at], .box 37 [I 0, S [], I 0, I 0, S [], S [], S [], S [], S [], .d (Sl eS []), I 0, I 0, B false], .box 37 [I v_at, S y1.1, I 0, I y3.1, S y5.1, S y7.1, S [], S [], S [], .d (Sl eS y46.1), I 0, I 0, B false]] rfl ?_
                refine go_ops hΓ 2 rfl ?_
                obtain rfl := Option.some.inj h47
                exact ⟨⟨rfl, rfl, trivial⟩, [], rfl, .inl rfl⟩
              · have h48 := cF h44 hb
                refine go hΓ 3 rfl ?_
                refine eo_store hΓ rfl rfl rfl rfl rfl rfl rfl rfl (Nat.le_of_ble_eq_true rfl) ?_
                refine eo_hp [.box 25 [.d (Sl (eN .i64) y11.2.L), I y11.2.v_at], .box 37 [I 0, S [], I 0, I 0, S [], S [], S [], S [], S [], .d (Sl eS []), I 0, I 0, B false], .box 37 [I v_at, S y1.1, I 0, I y3.1, S y5.1, S y7.1, S [], S [], S [], .d (Sl eS []), I 0, I 0, B false]] rfl ?_
                refine go_ops hΓ 2 rfl ?_
                obtain rfl := Option.some.inj h48
                exact ⟨⟨rfl, rfl, trivial⟩, [], rfl, .inl rfl⟩
  · refine go hΓ 4 rfl ?_
    refine eo_store hΓ rfl rfl rfl rfl rfl rfl rfl rfl (Nat.le_of_ble_eq_true rfl) ?_
    refine eo_hp [.box 25 [.d (Sl (eN .i64) q13.1.L), I q13.1.v_at], .box 37 [I q13.2.At, S q13.2.Server, I q13.2.No, I q13.2.Kind, S q13.2.By, S q13.2.Node, S q13.2.Join, S q13.2.Public, S q13.2.Name, .d (Sl eS q13.2.Tags), I q13.2.Until, I q13.2.Uses, B q13.2.Ready], .box 37 [I q13.2.At, S q13.2.Server, I q13.2.No, I q13.2.Kind, S q13.2.By, S q13.2.Node, S q13.2.Join, S q13.2.Public, S q13.2.Name, .d (Sl eS q13.2.Tags), I q13.2.Until, I q13.2.Uses, B q13.2.Ready]] rfl ?_
    refine go_ops hΓ 3 rfl ?_
    obtain rfl := Option.some.inj h14
    exact fin_objs hΓ [_, _] (.inr rfl) rfl rfl rfl rfl (.inr ⟨HB.mk rfl, rfl⟩)
theorem c_cmp_isNaN_int {x : Int} {r : Bool} (h : m_cmp_isNaN_int x = some r) : Pure Tryz.prog 251 [I x] (B r) := by
  refine Pure.enter (Fr.of 0 _) Tryz.func251 rfl (Fr.of_ok _) rfl rfl ?_
  refine go_in ?_
  unfold m_cmp_isNaN_int at h
  refine go hΓ 14 rfl ?_
  obtain rfl := Option.some.inj h
  exact fin_pure hΓ (.inr rfl) rfl rfl
theorem c_cmp_Compare_int {x : Int} {y : Int} {r : Int} (h : m_cmp_Compare_int x y = some r) : Pure Tryz.prog 167 [I x, I y] (I r) := by
  refine Pure.enter (Fr.of 0 _) Tryz.func167 rfl (Fr.of_ok _) rfl rfl ?_
  refine go_in ?_
  unfold m_cmp_Compare_int at h
  obtain ⟨y1, hy1, h2⟩ := bi_ok h
  refine go hΓ 8 rfl ?_
  refine eo_callP (callable Tryz.func251 rfl rfl) (c_cmp_isNaN_int hy1) rfl (Nat.le_of_ble_eq_true rfl) rfl rfl rfl rfl rfl ?_
  obtain ⟨y3, hy3, h4⟩ := bi_ok h2
  refine go_ops hΓ 6 rfl ?_
  refine eo_callP (callable Tryz.func251 rfl rfl) (c_cmp_isNaN_int hy3) rfl (Nat.le_of_ble_eq_true rfl) rfl rfl rfl rfl rfl ?_
  refine go_ops hΓ 9 rfl ?_
  refine j_cond rfl (fun hb => ?_) (fun hb => ?_)
  · have h5 := cT h4 hb
    refine go hΓ 6 rfl ?_
    refine j_cond rfl (fun hb => ?_) (fun hb => ?_)
    · have h6 := cT h5 hb
      refine go hΓ 8 rfl ?_
      obtain rfl := Option.some.inj h6
      exact fin_pure hΓ (.inr rfl) rfl rfl
    · have h7 := cF h5 hb
      refine go hΓ 9 rfl ?_
      obtain rfl := Option.some.inj h7
      exact fin_pure hΓ (.inr rfl) rfl rfl
  · have h8 := cF h4 hb
    refine go hΓ 8 rfl ?_
    refine j_cond rfl (fun hb => ?_) (fun hb => ?_)
    · have h9 := cT h8 hb
      refine go hΓ 7 rfl ?_
      obtain rfl := Option.some.inj h9
      exact fin_pure hΓ (.inr rfl) rfl rfl
    · have h10 := cF h8 hb
      refine go hΓ 10 rfl ?_
      refine j_cond rfl (fun hb => ?_) (fun hb => ?_)
      · have h11 := cT h10 hb
        refine go hΓ 7 rfl ?_
        obtain rfl := Option.some.inj h11
        exact fin_pure hΓ (.inr rfl) rfl rfl
      · have h12 := cF h10 hb
        refine go hΓ 10 rfl ?_
        refine j_cond rfl (fun hb => ?_) (fun hb => ?_)
        · have h13 := cT h12 hb
          refine go hΓ 7 rfl ?_
          obtain rfl := Option.some.inj h13
          exact fin_pure hΓ (.inr rfl) rfl rfl
        · have h14 := cF h12 hb
          refine go hΓ 8 rfl ?_
          obtain rfl := Option.some.inj h14
          exact fin_pure hΓ (.inr rfl) rfl rfl
theorem c_cmp_Or_int {vals : List Int} {r : Int} (h : m_cmp_Or_int vals = some r) : Pure Tryz.prog 196 [.d (Sl (eN .i64) vals)] (I r) := by
  refine Pure.enter (Fr.of 0 _) Tryz.func196 rfl (Fr.of_ok _) rfl rfl ?_
  refine go_in ?_
  unfold m_cmp_Or_int at h
  refine go hΓ 18 rfl ?_
  obtain ⟨q4, hq4, h5⟩ := bi_ok h
  refine j_bound 6 rfl fun hb7 => ?_
  refine j_cutEZ (R := fun a6 => q4 = .go a6) (fun a6 => [(3, I 0)]) (fun a6 => []) ?_ ?_
  · refine go hΓ 1 rfl ?_
    refine j_range vals hq4 (fun i1 s2 => [(3, I 0), (6, .d (Sl (eN .i64) vals)), (7, I (vals.length : Int)), (8, I (i1 : Int))]) (fun s2 => []) ⟨⟨rfl, rfl, rfl, rfl, trivial⟩, [], rfl, .inl rfl⟩ (fun i1 x3 s2 y11 hx8 hlt hy9 hout10 => ?_) (fun s2 hgo => ?_)
    · refine go hΓ 6 rfl ?_
      refine j_condT rfl (decide_eq_true (Int.ofNat_lt.2 hlt)) ?_
      refine go hΓ 6 rfl ?_
      refine eo_o rfl (op_elemZ hΓ (enc := (eN .i64)) (getZ_nat hx8) rfl rfl rfl rfl rfl (fun _ => rfl)) ?_
      refine go_ops hΓ 11 rfl ?_
      refine j_cond rfl (fun hb => ?_) (fun hb => ?_)
      · have h12 := cT hy9 hb
        refine go hΓ 9 rfl ?_
        obtain ⟨v13, hv13, h14⟩ := bi_ok h12
        obtain rfl := Option.some.inj h14
        obtain rfl := hout10 _ rfl
        obtain rfl := Option.some.inj h5
        refine go hΓ 4 rfl ?_
        obtain rfl := Option.some.inj hv13
        exact fin_pure hΓ (.inr rfl) rfl rfl
      · have h15 := cF hy9 hb
        refine go hΓ 7 rfl ?_
        obtain rfl := Option.some.inj h15
        exact ⟨_, rfl, ⟨⟨rfl, rfl, rfl, get_eq rfl (w64_succ (Nat.lt_of_lt_of_le hlt hb7)), trivial⟩, [], rfl, .inl rfl⟩⟩
    · subst hgo
      refine go hΓ 6 rfl ?_
      refine j_condF rfl (decide_eq_false (Int.lt_irrefl _)) ?_
      refine go hΓ 4 rfl ?_
      exact ⟨_, rfl, ⟨⟨rfl, trivial⟩, [], rfl, .inl rfl⟩⟩
  · intro a6 ha
    subst ha
    replace h5 := goI_l h5
    refine go hΓ 8 rfl ?_
    obtain rfl := Option.some.inj h5
    exact fin_pure hΓ (.inr rfl) rfl rfl
theorem c_laneref1_StepOrder {a : T_api_Step} {b : T_api_Step} {r : Int} (h : m_laneref1_StepOrder a b = some r) : Pure Tryz.prog 96 [.agg [I a.At, S a.Server, I a.No, I a.Kind, S a.By, S a.Node, S a.Join, S a.Public, S a.Name, .d (Sl eS a.Tags), I a.Until, I a.Uses, B a.Ready], .agg [I b.At, S b.Server, I b.No, I b.Kind, S b.By, S b.Node, S b.Join, S b.Public, S b.Name, .d (Sl eS b.Tags), I b.Until, I b.Uses, B b.Ready]] (I r) := by
  refine Pure.enter (Fr.of 0 _) Tryz.func96 rfl (Fr.of_ok _) rfl rfl ?_
  refine go_in ?_
  unfold m_laneref1_StepOrder at h
  refine go hΓ 2 rfl ?_
  refine eo_box rfl rfl rfl rfl (Nat.le_of_ble_eq_true rfl) ?_
  refine eo_box rfl rfl rfl rfl (Nat.le_of_ble_eq_true rfl) ?_
  refine go_ops hΓ 4 rfl ?_
  refine j_draw hmix (by kernel_rfl) ?_
  obtain ⟨y1, hy1, h2⟩ := bi_ok h
  refine go hΓ 4 rfl ?_
  refine gl_callP (callable Tryz.func167 rfl rfl) (c_cmp_Compare_int hy1) rfl rfl rfl rfl rfl rfl ?_
  obtain ⟨y3, hy3, h4⟩ := bi_ok h2
  refine go_draw hΓ 4 rfl ?_
  refine gl_callP (callable Tryz.func147 rfl rfl) (c_strings_Compare hy3) rfl rfl rfl rfl rfl rfl ?_
  obtain ⟨y5, hy5, h6⟩ := bi_ok h4
  refine go_draw hΓ 4 rfl ?_
  refine gl_callP (callable Tryz.func167 rfl rfl) (c_cmp_Compare_int hy5) rfl rfl rfl rfl rfl rfl ?_
  refine gl_litT hΓ (enc := (eN .i64)) [y1, y3, y5] rfl rfl rfl rfl rfl rfl rfl rfl rfl rfl rfl rfl ?_
  obtain ⟨y7, hy7, h8⟩ := bi_ok h6
  refine gl_callP (callable Tryz.func196 rfl rfl) (c_cmp_Or_int hy7) rfl rfl rfl rfl rfl rfl ?_
  refine go_draw hΓ 4 rfl ?_
  obtain rfl := Option.some.inj h8
  exact fin_pure hΓ (.inr rfl) rfl rfl
set_option maxHeartbeats 8000000 in
theorem c_slices_insertionSortCmpFunc_api_Step {k : Nat} {data : List T_api_Step} {a : Int} {b : Int} {r : List T_api_Step} (h : m_slices_insertionSortCmpFunc_api_Step k data a b = some r) : EC Tryz.prog 280 [.sl 0 data.length, I a, I b, .fn (.func 96) [] []] [.row 37 13 data.length (data.flatMap e_api_Step)] fun g hp' => g = .tup [] ∧ hp' = [.row 37 13 r.length (r.flatMap e_api_Step)] := by
  refine ec_enter (Fr.of 0 _) Tryz.func280 rfl (Fr.of_ok _) (Nat.le_of_ble_eq_true rfl) fun _ => ?_
  refine go_in ?_
  unfold m_slices_insertionSortCmpFunc_api_Step at h
  refine go hΓ 7 rfl ?_
  obtain ⟨q4, hq4, h5⟩ := bi_ok h
  refine j_cutNZ [] [.row 37 13 q4.length (q4.flatMap e_api_Step)] ?_ ?_
  · refine go hΓ 1 rfl ?_
    refine j_loop hq4 (fun s2 => [(0, .sl 0 s2.1.length), (1, I a), (2, I b), (3, .fn (.func 96) [] []), (8, I s2.2)]) (fun s2 => [.row 37 13 s2.1.length (s2.1.flatMap e_api_Step)]) ⟨⟨rfl, rfl, rfl, rfl, rfl, trivial⟩, [], rfl, .inl rfl⟩ (fun s2 y10 hy8 hout9 => ?_)
    refine go hΓ 8 rfl ?_
    refine j_cond rfl (fun hb => ?_) (fun hb => ?_)
    · have h11 := cT hy8 hb
      refine go hΓ 10 rfl ?_
      obtain ⟨q15, hq15, h16⟩ := bi_ok h11
      refine j_cutNZ [(0, .sl 0 q15.length), (1, I a), (2, I b), (3, .fn (.func 96) [] []), (8, I s2.2)] [.row 37 13 q15.length (q15.flatMap e_api_Step)] ?_ ?_
      · refine go hΓ 1 rfl ?_
        refine j_loop hq15 (fun s13 => [(0, .sl 0 s13.1.length), (1, I a), (2, I b), (3, .fn (.func 96) [] []), (8, I s2.2), (9, I s13.2)]) (fun s13 => [.row 37 13 s13.1.length (s13.1.flatMap e_api_Step)]) ⟨⟨rfl, rfl, rfl, rfl, rfl, rfl, trivial⟩, [], rfl, .inl rfl⟩ (fun s13 y21 hy19 hout20 => ?_)
        obtain ⟨q22, hq22, h23⟩ := bi_ok hy19
        refine go hΓ 2 rfl ?_
        refine j_cutNZ [(0, .sl 0 s13.1.length), (1, I a), (2, I b), (3, .fn (.func 96) [] []), (8, I s2.2), (9, I s13.2), (34, B q22)] [.row 37 13 s13.1.length (s13.1.flatMap e_api_Step)] ?_ ?_
        · refine j_draw hmix (by kernel_rfl) ?_
          refine go hΓ 4 rfl ?_
          refine gl_gsplit rfl rfl (fun hb => ?_) (fun hb => ?_)
          · have h24 := cT hq22 hb
            obtain ⟨x25, hx25, h26⟩ := bi_ok h24
            have hj27 := getZ_at hx25
            refine go_draw hΓ 3 rfl ?_
            refine gl_og rfl rfl (op_elemRowZ hΓ hx25 rfl rfl rfl rfl rfl rfl) ?_
            refine gl_og rfl rfl (op_loadRowZ hΓ (enc := e_api_Step) s13.2.toNat 0 hj27 rfl rfl rfl rfl (fun _ => rfl) (g := .agg [I x25.At, S x25.Server, I x25.No, I x25.Kind, S x25.By, S x25.Node, S x25.Join, S x25.Public, S x25.Name, .d (Sl eS x25.Tags), I x25.Until, I x25.Uses, B x25.Ready]) rfl) ?_
            obtain ⟨x28, hx28, h29⟩ := bi_ok h26
            have hj30 := getZ_at hx28
            refine go_draw hΓ 3 rfl ?_
            refine gl_og rfl rfl (op_elemRowZ hΓ hx28 rfl rfl rfl rfl rfl rfl) ?_
            refine gl_og rfl rfl (op_loadRowZ hΓ (enc := e_api_Step) ((wi (s13.2 - 1)).toNat) 0 hj30 rfl rfl rfl rfl (fun _ => rfl) (g := .agg [I x28.At, S x28.Server, I x28.No, I x28.Kind, S x28.By, S x28.Node, S x28.Join, S x28.Public, S x28.Name, .d (Sl eS x28.Tags), I x28.Until, I x28.Uses, B x28.Ready]) rfl) ?_
            obtain ⟨y31, hy31, h32⟩ := bi_ok h29
            refine gl_callPg (callable Tryz.func96 rfl rfl) (c_laneref1_StepOrder hy31) rfl rfl rfl rfl rfl rfl rfl ?_
            refine go_draw hΓ 3 rfl ?_
            obtain rfl := Option.some.inj h32
            exact ⟨⟨rfl, rfl, rfl, rfl, rfl, rfl, rfl, trivial⟩, [], rfl, .inl rfl⟩
          · have h33 := cF hq22 hb
            refine go_draw hΓ 14 rfl ?_
            obtain rfl := Option.some.inj h33
            exact ⟨⟨rfl, rfl, rfl, rfl, rfl, rfl, rfl, trivial⟩, [], rfl, .inl rfl⟩
        · refine go hΓ 1 rfl ?_
          refine j_cond rfl (fun hb => ?_) (fun hb => ?_)
          · have h34 := cT h23 hb
            refine go hΓ 4 rfl ?_
            refine j_drawE [.row 37 13 s13.1.length (s13.1.flatMap e_api_Step)] [9, 13] [15, 17] [15, 17] hmix (by kernel_rfl) (by kernel_rfl) ⟨rfl, trivial⟩ (Nat.le_of_ble_eq_true rfl) ?_
            obtain ⟨x35, hx35, h36⟩ := bi_ok h34
            have hj37 := getZ_at hx35
            refine go_E hΓ 8 rfl ?_
            refine ge_q rfl (.inl rfl) (fun _ _ => qte_of_qt (qt_p (op_elemRowZ hΓ hx35 rfl rfl rfl rfl rfl rfl))) ?_
            refine ge_p rfl (fun hp hs => op_loadRowZ hΓ (enc := e_api_Step) ((wi (s13.2 - 1)).toNat) 0 hj37 rfl rfl rfl (hs 0 _ rfl rfl) (fun _ => rfl) (g := .agg [I x35.At, S x35.Server, I x35.No, I x35.Kind, S x35.By, S x35.Node, S x35.Join, S x35.Public, S x35.Name, .d (Sl eS x35.Tags), I x35.Until, I x35.Uses, B x35.Ready]) rfl) rfl ?_
            obtain ⟨x38, hx38, h39⟩ := bi_ok h36
            have hj40 := getZ_at hx38
            refine go_E hΓ 2 rfl ?_
            refine ge_q rfl (.inl rfl) (fun _ _ => qte_of_qt (qt_p (op_elemRowZ hΓ hx38 rfl rfl rfl rfl rfl rfl))) ?_
            refine ge_p rfl (fun hp hs => op_loadRowZ hΓ (enc := e_api_Step) s13.2.toNat 0 hj40 rfl rfl rfl (hs 0 _ rfl rfl) (fun _ => rfl) (g := .agg [I x38.At, S x38.Server, I x38.No, I x38.Kind, S x38.By, S x38.Node, S x38.Join, S x38.Public, S x38.Name, .d (Sl eS x38.Tags), I x38.Until, I x38.Uses, B x38.Ready]) rfl) rfl ?_
            obtain ⟨x41, hx41, h42⟩ := bi_ok h39
            have hj43 := getZ_at hx41
            refine ge_q rfl (.inl rfl) (fun _ _ => qte_of_qt (qt_p (op_elemRowZ hΓ hx41 rfl rfl rfl rfl rfl rfl))) ?_
            refine ge_h0 [.row 37 13 (s13.1.set s13.2.toNat x35).length ((s13.1.set s13.2.toNat x35).flatMap e_api_Step)] rfl rfl (brk_st rfl) (qte_u (opu_setRowZ hΓ (enc := e_api_Step) (z' := x35) s13.2.toNat (by have := (List.getElem?_eq_some_iff.1 hj43).1; simpa using this) rfl rfl rfl rfl (fun _ => rfl) rfl rfl rfl rfl rfl)) ?_
            obtain ⟨x44, hx44, h45⟩ := bi_ok h42
            have hj46 := getZ_at hx44
            refine ge_q rfl (.inl rfl) (fun _ _ => qte_of_qt (qt_p (op_elemRowZ hΓ hx44 rfl rfl rfl rfl rfl rfl))) ?_
            obtain ⟨x47, hx47, h48⟩ := bi_ok h45
            have hj49 : (s13.1.set s13.2.toNat x35)[(wi (s13.2 - 1)).toNat]? = some x47 := hx47
            refine ge_h0 [.row 37 13 ((s13.1.set s13.2.toNat x35).set ((wi (s13.2 - 1)).toNat) x38).length (((s13.1.set s13.2.toNat x35).set ((wi (s13.2 - 1)).toNat) x38).flatMap e_api_Step)] rfl rfl (brk_st rfl) (qte_u (opu_setRowZ hΓ (enc := e_api_Step) (z' := x38) ((wi (s13.2 - 1)).toNat) (by have := (List.getElem?_eq_some_iff.1 hj49).1; simpa using this) rfl rfl rfl rfl (fun _ => rfl) rfl rfl rfl rfl rfl)) ?_
            refine ge_fin ?_
            refine go hΓ 2 rfl ?_
            refine j_relen 0 (n' := ((s13.1.set s13.2.toNat x35).set ((wi (s13.2 - 1)).toNat) x38).length) rfl (by simp) ?_
            refine j_relen 37 (n' := ((s13.1.set s13.2.toNat x35).set ((wi (s13.2 - 1)).toNat) x38).length) rfl (by simp) ?_
            refine j_relen 39 (n' := ((s13.1.set s13.2.toNat x35).set ((wi (s13.2 - 1)).toNat) x38).length) rfl (by simp) ?_
            refine j_relen 42 (n' := ((s13.1.set s13.2.toNat x35).set ((wi (s13.2 - 1)).toNat) x38).length) rfl (by simp) ?_
            refine j_relen 47 (n' := ((s13.1.set s13.2.toNat x35).set ((wi (s13.2 - 1)).toNat) x38).length) rfl (by simp) ?_
            refine go hΓ 5 rfl ?_
            obtain rfl := Option.some.inj h48
            exact ⟨_, rfl, ⟨⟨rfl, rfl, rfl, rfl, rfl, rfl, trivial⟩, [], rfl, .inl rfl⟩⟩
          · have h50 := cF h23 hb
            refine go hΓ 4 rfl ?_
            obtain rfl := Option.some.inj h50
            obtain rfl := hout20 _ rfl
            exact ⟨⟨rfl, rfl, rfl, rfl, rfl, trivial⟩, [], rfl, .inl rfl⟩
      · refine go hΓ 7 rfl ?_
        obtain rfl := Option.some.inj h16
        exact ⟨_, rfl, ⟨⟨rfl, rfl, rfl, rfl, rfl, trivial⟩, [], rfl, .inl rfl⟩⟩
    · have h51 := cF hy8 hb
      refine go hΓ 4 rfl ?_
      obtain rfl := Option.some.inj h51
      obtain rfl := hout9 _ rfl
      exact ⟨trivial, [], rfl, .inl rfl⟩
  · obtain rfl := Option.some.inj h5
    exact fin_objs hΓ [] (.inl rfl) rfl rfl rfl rfl (.inl rfl)
set_option maxHeartbeats 8000000 in
theorem c_slices_stableCmpFunc_api_Step {k : Nat} {data : List T_api_Step} {n : Int} {r : List T_api_Step} (h : m_slices_stableCmpFunc_api_Step k data n = some r) : EC Tryz.prog 205 [.sl 0 data.length, I n, .fn (.func 96) [] []] [.row 37 13 data.length (data.flatMap e_api_Step)] fun g hp' => g = .tup [] ∧ hp' = [.row 37 13 r.length (r.flatMap e_api_Step)] := by
  refine ec_enter (Fr.of 0 _) Tryz.func205 rfl (Fr.of_ok _) (Nat.le_of_ble_eq_true rfl) fun _ => ?_
  refine go_in ?_
  unfold m_slices_stableCmpFunc_api_Step at h
  refine go hΓ 13 rfl ?_
  obtain ⟨q4, hq4, h5⟩ := bi_ok h
  refine j_cutNZ [(0, .sl 0 q4.1.length), (1, I n), (2, .fn (.func 96) [] []), (6, I 20), (7, I q4.2)] [.row 37 13 q4.1.length (q4.1.flatMap e_api_Step)] ?_ ?_
  · refine go hΓ 1 rfl ?_
    refine j_loop hq4 (fun s2 => [(0, .sl 0 s2.1.length), (1, I n), (2, .fn (.func 96) [] []), (6, I 20), (7, I s2.2.1), (8, I s2.2.2)]) (fun s2 => [.row 37 13 s2.1.length (s2.1.flatMap e_api_Step)]) ⟨⟨rfl, rfl, rfl, rfl, rfl, rfl, trivial⟩, [], rfl, .inl rfl⟩ (fun s2 y10 hy8 hout9 => ?_)
    refine go hΓ 8 rfl ?_
    refine j_cond rfl (fun hb => ?_) (fun hb => ?_)
    · have h11 := cT hy8 hb
      obtain ⟨y12, hy12, h13⟩ := bi_ok h11
      refine go hΓ 9 rfl ?_
      refine eo_callF [0] (.tup []) [.row 37 13 y12.length (y12.flatMap e_api_Step)] (callable Tryz.func280 rfl rfl) (c_slices_insertionSortCmpFunc_api_Step hy12) rfl (Nat.le_of_ble_eq_true rfl) rfl rfl rfl rfl rfl rfl rfl rfl rfl rfl ?_
      obtain ⟨hg15, h14⟩ := gd_ok h13
      refine eo_relen 0 rfl (of_decide_eq_true hg15).symm ?_
      refine go_ops hΓ 15 rfl ?_
      obtain rfl := Option.some.inj h14
      exact ⟨_, rfl, ⟨⟨rfl, rfl, rfl, rfl, rfl, rfl, trivial⟩, [], rfl, .inl rfl⟩⟩
    · have h16 := cF hy8 hb
      refine go hΓ 4 rfl ?_
      obtain rfl := Option.some.inj h16
      obtain rfl := hout9 _ rfl
      exact ⟨⟨rfl, rfl, rfl, rfl, rfl, trivial⟩, [], rfl, .inl rfl⟩
  · obtain ⟨y17, hy17, h18⟩ := bi_ok h5
    refine go hΓ 7 rfl ?_
    refine eo_callF [0] (.tup []) [.row 37 13 y17.length (y17.flatMap e_api_Step)] (callable Tryz.func280 rfl rfl) (c_slices_insertionSortCmpFunc_api_Step hy17) rfl (Nat.le_of_ble_eq_true rfl) rfl rfl rfl rfl rfl rfl rfl rfl rfl rfl ?_
    obtain ⟨hg20, h19⟩ := gd_ok h18
    refine eo_relen 0 rfl (of_decide_eq_true hg20).symm ?_
    refine go_ops hΓ 2 rfl ?_
    obtain ⟨q24, hq24, h25⟩ := bi_ok h19
    refine j_cutNZ [] [.row 37 13 y17.length (y17.flatMap e_api_Step)] ?_ ?_
    · refine go hΓ 1 rfl ?_
      refine j_loop hq24 (fun s22 => [(0, .sl 0 y17.length), (1, I n), (2, .fn (.func 96) [] []), (6, I s22)]) (fun s22 => [.row 37 13 y17.length (y17.flatMap e_api_Step)]) ⟨⟨rfl, rfl, rfl, rfl, trivial⟩, [], rfl, .inl rfl⟩ (fun s22 y30 hy28 hout29 => ?_)
      refine go hΓ 8 rfl ?_
      refine j_cond rfl (fun hb => ?_) (fun hb => ?_)
      · have h31 := cT hy28 hb
        refine go hΓ 12 rfl ?_
        obtain ⟨q35, hq35, h36⟩ := bi_ok h31
        refine j_cutNZ [(0, .sl 0 y17.length), (1, I n), (2, .fn (.func 96) [] []), (6, I s22), (7, I 0)] [.row 37 13 y17.length (y17.flatMap e_api_Step)] ?_ ?_
        · refine go hΓ 1 rfl ?_
          refine j_loop hq35 (fun s33 => [(0, .sl 0 y17.length), (1, I n), (2, .fn (.func 96) [] []), (6, I s22), (7, I 0), (8, I (wi (2 * s22)))]) (fun s33 => [.row 37 13 y17.length (y17.flatMap e_api_Step)]) ⟨⟨rfl, rfl, rfl, rfl, rfl, rfl, trivial⟩, [], rfl, .inl rfl⟩ (fun s33 y41 hy39 hout40 => ?_)
          refine go hΓ 8 rfl ?_
          refine j_cond rfl (fun hb => ?_) (fun hb => ?_)
          · have h42 := cT hy39 hb
            refine go hΓ 12 rfl ?_
            cases h42
          · have h43 := cF hy39 hb
            refine go hΓ 4 rfl ?_
            obtain rfl := Option.some.inj h43
            obtain rfl := hout40 _ rfl
            exact ⟨⟨rfl, rfl, rfl, rfl, rfl, trivial⟩, [], rfl, .inl rfl⟩
        · refine go hΓ 17 rfl ?_
          refine j_cond rfl (fun hb => ?_) (fun hb => ?_)
          · have h44 := cT h36 hb
            refine go hΓ 6 rfl ?_
            cases h44
          · have h45 := cF h36 hb
            refine go hΓ 8 rfl ?_
            obtain rfl := Option.some.inj h45
            exact ⟨_, rfl, ⟨⟨rfl, rfl, rfl, rfl, trivial⟩, [], rfl, .inl rfl⟩⟩
      · have h46 := cF hy28 hb
        refine go hΓ 4 rfl ?_
        obtain rfl := Option.some.inj h46
        obtain rfl := hout29 _ rfl
        exact ⟨trivial, [], rfl, .inl rfl⟩
    · obtain rfl := Option.some.inj h25
      exact fin_objs hΓ [] (.inl rfl) rfl rfl rfl rfl (.inl rfl)
theorem c_slices_SortStableFunc_api_Step_api_Step {k : Nat} {x : List T_api_Step} {r : List T_api_Step} (h : m_slices_SortStableFunc_api_Step_api_Step k x = some r) : EC Tryz.prog 99 [.sl 0 x.length, .fn (.func 96) [] []] [.row 37 13 x.length (x.flatMap e_api_Step)] fun g hp' => g = .tup [] ∧ hp' = [.row 37 13 r.length (r.flatMap e_api_Step)] := by
  refine ec_enter (Fr.of 0 _) Tryz.func99 rfl (Fr.of_ok _) (Nat.le_of_ble_eq_true rfl) fun _ => ?_
  refine go_in ?_
  unfold m_slices_SortStableFunc_api_Step_api_Step at h
  obtain ⟨y1, hy1, h2⟩ := bi_ok h
  refine go hΓ 5 rfl ?_
  refine eo_callF [0] (.tup []) [.row 37 13 y1.length (y1.flatMap e_api_Step)] (callable Tryz.func205 rfl rfl) (c_slices_stableCmpFunc_api_Step hy1) rfl (Nat.le_of_ble_eq_true rfl) rfl rfl rfl rfl rfl rfl rfl rfl rfl rfl ?_
  refine go_ops hΓ 1 rfl ?_
  obtain rfl := Option.some.inj h2
  exact fin_objs hΓ [] (.inl rfl) rfl rfl rfl rfl (.inl rfl)
set_option maxHeartbeats 8000000 in
theorem c_lanemake_Stream_Steps {k : Nat} {s : T_lanemake_Stream} {many : Int} {r : (List T_api_Step) × T_lanemake_Stream} (h : m_lanemake_Stream_Steps k s many = some r) : EC Tryz.prog 23 [.ptr 0 0, I many] [.box 25 [.d (Sl (eN .i64) s.L), I s.v_at]] fun g hp' => g = .sl 1 r.1.length ∧ hp' = [.box 25 [.d (Sl (eN .i64) r.2.L), I r.2.v_at], .row 37 13 r.1.length (r.1.flatMap e_api_Step)] := by
  refine ec_enterC (Fr.of 0 _) Tryz.func23 rfl (Fr.of_ok _) (Nat.le_of_ble_eq_true rfl) fun _ => ?_
  refine go_in ?_
  unfold m_lanemake_Stream_Steps at h
  refine go hΓ 2 rfl ?_
  refine eo_nilOwn (t := 0) 37 13 rfl (Nat.le_of_ble_eq_true rfl) ?_
  refine go_ops hΓ 4 rfl ?_
  refine eo_nilOwn (t := 0) 37 13 rfl (Nat.le_of_ble_eq_true rfl) ?_
  refine go_ops hΓ 4 rfl ?_
  refine eo_s (Nat.le_of_ble_eq_true rfl) (nblt.1 rfl) (ops_makeMap false) ?_
  refine eo_hp [.box 25 [.d (Sl (eN .i64) s.L), I s.v_at], .row 37 13 ([] : List T_api_Step).length (([] : List T_api_Step).flatMap e_api_Step), .row 37 13 ([] : List T_api_Step).length (([] : List T_api_Step).flatMap e_api_Step), mOb kS false (eN .i64) ([] : List (Str × Int))] rfl ?_
  obtain ⟨y1, hy1, h2⟩ := bi_ok h
  refine go_ops hΓ 6 rfl ?_
  refine eo_callF [0] (I y1.1) [.box 25 [.d (Sl (eN .i64) y1.2.L), I y1.2.v_at], .row 37 13 ([] : List T_api_Step).length (([] : List T_api_Step).flatMap e_api_Step), .row 37 13 ([] : List T_api_Step).length (([] : List T_api_Step).flatMap e_api_Step), mOb kS false (eN .i64) ([] : List (Str × Int))] (callable Tryz.func26 rfl rfl) (c_lanemake_Stream_Next hy1) rfl (Nat.le_of_ble_eq_true rfl) rfl rfl rfl rfl rfl rfl rfl rfl rfl rfl ?_
  refine go_ops hΓ 10 rfl ?_
  obtain ⟨q6, hq6, h7⟩ := bi_ok h2
  obtain ⟨hb9, h10⟩ := gd_ok hq6
  replace hb9 := of_decide_eq_true hb9
  refine j_cutNZ [(0, .ptr 0 0), (5, .sl 2 q6.2.1.length)] [.box 25 [.d (Sl (eN .i64) q6.1.L), I q6.1.v_at], .row 37 13 ([] : List T_api_Step).length (([] : List T_api_Step).flatMap e_api_Step), .row 37 13 q6.2.1.length (q6.2.1.flatMap e_api_Step), mOb kS false (eN .i64) q6.2.2.1] ?_ ?_
  · refine go hΓ 1 rfl ?_
    refine j_rangeG h10 (fun i3 s4 => [(0, .ptr 0 0), (5, .sl 2 s4.2.1.length), (6, .map 3), (7, I s4.2.2.2), (13, I many), (14, I (i3 : Int))]) (fun s4 => [.box 25 [.d (Sl (eN .i64) s4.1.L), I s4.1.v_at], .row 37 13 ([] : List T_api_Step).length (([] : List T_api_Step).flatMap e_api_Step), .row 37 13 s4.2.1.length (s4.2.1.flatMap e_api_Step), mOb kS false (eN .i64) s4.2.2.1]) ⟨⟨rfl, rfl, rfl, rfl, rfl, rfl, trivial⟩, [], rfl, .inl rfl⟩ (fun i3 s4 y14 hlt hy12 => ?_) (fun hge => ?_)
    · refine go hΓ 6 rfl ?_
      refine j_condT rfl (decide_eq_true hlt) ?_
      obtain ⟨y15, hy15, h16⟩ := bi_ok hy12
      refine go hΓ 8 rfl ?_
      refine eo_callF [0] (.agg [I y15.1.At, S y15.1.Server, I y15.1.No, I y15.1.Kind, S y15.1.By, S y15.1.Node, S y15.1.Join, S y15.1.Public, S y15.1.Name, .d (Sl eS y15.1.Tags), I y15.1.Until, I y15.1.Uses, B y15.1.Ready]) [.box 25 [.d (Sl (eN .i64) y15.2.L), I y15.2.v_at], .row 37 13 ([] : List T_api_Step).length (([] : List T_api_Step).flatMap e_api_Step), .row 37 13 s4.2.1.length (s4.2.1.flatMap e_api_Step), mOb kS false (eN .i64) s4.2.2.1] (callable Tryz.func12 rfl rfl) (c_lanemake_Stream_OneStep hy15) rfl (Nat.le_of_ble_eq_true rfl) rfl rfl rfl rfl rfl rfl rfl rfl rfl rfl ?_
      refine eo_alloc hΓ rfl rfl rfl (Nat.le_of_ble_eq_true rfl) ?_
      refine eo_store hΓ rfl rfl rfl rfl rfl rfl rfl rfl (Nat.le_of_ble_eq_true rfl) ?_
      refine eo_hp [.box 25 [.d (Sl (eN .i64) y15.2.L), I y15.2.v_at], .row 37 13 ([] : List T_api_Step).length (([] : List T_api_Step).flatMap e_api_Step), .row 37 13 s4.2.1.length (s4.2.1.flatMap e_api_Step), mOb kS false (eN .i64) s4.2.2.1, .box 37 [I y15.1.At, S y15.1.Server, I y15.1.No, I y15.1.Kind, S y15.1.By, S y15.1.Node, S y15.1.Join, S y15.1.Public, S y15.1.Name, .d (Sl eS y15.1.Tags), I y15.1.Until, I y15.1.Uses, B y15.1.Ready]] rfl ?_
      refine go_ops hΓ 7 rfl ?_
      refine eo_o rfl (op_lookup hΓ (kv := kS) (agg := false) (enc := (eN .i64)) s4.2.2.1 y15.1.Server (0 : Int) rfl rfl rfl rfl key_str rfl rfl rfl rfl rfl rfl rfl) ?_
      refine go_ops hΓ 1 rfl ?_
      refine eo_u (Nat.le_of_ble_eq_true rfl) (opu_mapUpdate hΓ (kv := kS) (agg := false) (enc := (eN .i64)) (id := 3) s4.2.2.1 y15.1.Server (wi (((mGet s4.2.2.1 y15.1.Server).getD 0) + 1)) rfl rfl rfl key_str rfl rfl rfl rfl rfl) ?_
      refine eo_hp [.box 25 [.d (Sl (eN .i64) y15.2.L), I y15.2.v_at], .row 37 13 ([] : List T_api_Step).length (([] : List T_api_Step).flatMap e_api_Step), .row 37 13 s4.2.1.length (s4.2.1.flatMap e_api_Step), mOb kS false (eN .i64) (mSet s4.2.2.1 y15.1.Server (wi (((mGet s4.2.2.1 y15.1.Server).getD 0) + 1))), .box 37 [I y15.1.At, S y15.1.Server, I y15.1.No, I y15.1.Kind, S y15.1.By, S y15.1.Node, S y15.1.Join, S y15.1.Public, S y15.1.Name, .d (Sl eS y15.1.Tags), I y15.1.Until, I y15.1.Uses, B y15.1.Ready]] rfl ?_
      refine go_ops hΓ 7 rfl ?_
      refine eo_o rfl (op_lookup hΓ (kv := kS) (agg := false) (enc := (eN .i64)) (mSet s4.2.2.1 y15.1.Server (wi (((mGet s4.2.2.1 y15.1.Server).getD 0) + 1))) y15.1.Server (0 : Int) rfl rfl rfl rfl key_str rfl rfl rfl rfl rfl rfl rfl) ?_
      refine go_ops hΓ 1 rfl ?_
      refine eo_store hΓ rfl rfl rfl rfl rfl rfl rfl rfl (Nat.le_of_ble_eq_true rfl) ?_
      refine eo_hp [.box 25 [.d (Sl (eN .i64) y15.2.L), I y15.2.v_at], .row 37 13 ([] : List T_api_Step).length (([] : List T_api_Step).flatMap e_api_Step), .row 37 13 s4.2.1.length (s4.2.1.flatMap e_api_Step), mOb kS false (eN .i64) (mSet s4.2.2.1 y15.1.Server (wi (((mGet s4.2.2.1 y15.1.Server).getD 0) + 1))), .box 37 [I y15.1.At, S y15.1.Server, I ((mGet (mSet s4.2.2.1 y15.1.Server (wi (((mGet s4.2.2.1 y15.1.Server).getD 0) + 1))) y15.1.Server).getD 0), I y15.1.Kind, S y15.1.By, S y15.1.Node, S y15.1.Join, S y15.1.Public, S y15.1.Name, .d (Sl eS y15.1.Tags), I y15.1.Until, I y15.1.Uses, B y15.1.Ready]] rfl ?_
      refine go_ops hΓ 6 rfl ?_
      refine eo_litT hΓ (enc := e_api_Step) [(⟨y15.1.At, y15.1.Server, ((mGet (mSet s4.2.2.1 y15.1.Server (wi (((mGet s4.2.2.1 y15.1.Server).getD 0) + 1))) y15.1.Server).getD 0), y15.1.Kind, y15.1.By, y15.1.Node, y15.1.Join, y15.1.Public, y15.1.Name, y15.1.Tags, y15.1.Until, y15.1.Uses, y15.1.Ready⟩ : T_api_Step)] rfl rfl rfl rfl rfl rfl rfl rfl rfl rfl rfl rfl (Nat.le_of_ble_eq_true rfl) ?_
      obtain ⟨y17, hy17, h18⟩ := bi_ok h16
      refine eo_appendT hΓ (enc := e_api_Step) hy17 rfl rfl rfl rfl rfl rfl rfl rfl rfl (fun _ => rfl) rfl rfl rfl rfl ?_
      refine go_ops hΓ 6 rfl ?_
      refine eo_litT hΓ (enc := (eN .i64)) [0, 1, 1, 5, 20, 60] rfl rfl rfl rfl rfl rfl rfl rfl rfl rfl rfl rfl (Nat.le_of_ble_eq_true rfl) ?_
      obtain ⟨y19, hy19, h20⟩ := bi_ok h18
      refine eo_callF [0] (I y19.1) [.box 25 [.d (Sl (eN .i64) y19.2.L), I y19.2.v_at], .row 37 13 ([] : List T_api_Step).length (([] : List T_api_Step).flatMap e_api_Step), .row 37 13 y17.length (y17.flatMap e_api_Step), mOb kS false (eN .i64) (mSet s4.2.2.1 y15.1.Server (wi (((mGet s4.2.2.1 y15.1.Server).getD 0) + 1))), .box 37 [I y15.1.At, S y15.1.Server, I ((mGet (mSet s4.2.2.1 y15.1.Server (wi (((mGet s4.2.2.1 y15.1.Server).getD 0) + 1))) y15.1.Server).getD 0), I y15.1.Kind, S y15.1.By, S y15.1.Node, S y15.1.Join, S y15.1.Public, S y15.1.Name, .d (Sl eS y15.1.Tags), I y15.1.Until, I y15.1.Uses, B y15.1.Ready]] (callable Tryz.func13 rfl rfl) (c_lanemake_Stream_Pick hy19) rfl (Nat.le_of_ble_eq_true rfl) rfl rfl rfl rfl rfl rfl rfl rfl rfl rfl ?_
      refine go_ops hΓ 9 rfl ?_
      obtain rfl := Option.some.inj h20
      exact ⟨⟨rfl, rfl, rfl, rfl, rfl, get_eq rfl (w64_succ (by omega)), trivial⟩, [_], rfl, .inr ⟨HB.mk rfl, FB.mk rfl, (Nat.le_of_ble_eq_true rfl)⟩⟩
    · refine go hΓ 6 rfl ?_
      refine j_condF rfl (decide_eq_false hge) ?_
      refine go hΓ 4 rfl ?_
      exact ⟨⟨rfl, rfl, trivial⟩, [], rfl, .inl rfl⟩
  · obtain ⟨y21, hy21, h22⟩ := bi_ok h7
    refine go hΓ 4 rfl ?_
    refine eo_callF [2] (.tup []) [.box 25 [.d (Sl (eN .i64) q6.1.L), I q6.1.v_at], .row 37 13 ([] : List T_api_Step).length (([] : List T_api_Step).flatMap e_api_Step), .row 37 13 y21.length (y21.flatMap e_api_Step), mOb kS false (eN .i64) q6.2.2.1] (callable Tryz.func99 rfl rfl) (c_slices_SortStableFunc_api_Step_api_Step hy21) rfl (Nat.le_of_ble_eq_true rfl) rfl rfl rfl rfl rfl rfl rfl rfl rfl rfl ?_
    obtain ⟨hg24, h23⟩ := gd_ok h22
    refine eo_relen 5 rfl (of_decide_eq_true hg24).symm ?_
    refine go_ops hΓ 9 rfl ?_
    obtain ⟨q25, hq25, h26⟩ := bi_ok h23
    refine o_cut 3 [(0, .ptr 0 0), (5, .sl 2 y21.length), (47, B q25.2)] [.box 25 [.d (Sl (eN .i64) q25.1.L), I q25.1.v_at], .row 37 13 ([] : List T_api_Step).length (([] : List T_api_Step).flatMap e_api_Step), .row 37 13 y21.length (y21.flatMap e_api_Step), mOb kS false (eN .i64) q6.2.2.1] ?_ ?_
    · refine eo_gsplit rfl rfl (fun hb => ?_) (fun hb => ?_)
      · have h27 := cT hq25 hb
        obtain ⟨y28, hy28, h29⟩ := bi_ok h27
        refine go_ops hΓ 1 rfl ?_
        refine eo_guard rfl ?_
        refine eo_callF [0] (B y28.1) [.box 25 [.d (Sl (eN .i64) y28.2.L), I y28.2.v_at], .row 37 13 ([] : List T_api_Step).length (([] : List T_api_Step).flatMap e_api_Step), .row 37 13 y21.length (y21.flatMap e_api_Step), mOb kS false (eN .i64) q6.2.2.1] (callable Tryz.func24 rfl rfl) (c_lanemake_Stream_Flip hy28) rfl (Nat.le_of_ble_eq_true rfl) rfl rfl rfl rfl rfl rfl rfl rfl rfl rfl ?_
        refine go_ops hΓ 2 rfl ?_
        obtain rfl := Option.some.inj h29
        exact ⟨⟨rfl, rfl, rfl, trivial⟩, [], rfl, .inl rfl⟩
      · have h30 := cF hq25 hb
        refine go_ops hΓ 4 rfl ?_
        obtain rfl := Option.some.inj h30
        exact ⟨⟨rfl, rfl, rfl, trivial⟩, [], rfl, .inl rfl⟩
    · obtain ⟨q31, hq31, h32⟩ := bi_ok h26
      refine go_ops hΓ 2 rfl ?_
      refine j_cutNZ [(5, .sl 2 q31.2.length)] [.box 25 [.d (Sl (eN .i64) q31.1.L), I q31.1.v_at], .row 37 13 ([] : List T_api_Step).length (([] : List T_api_Step).flatMap e_api_Step), .row 37 13 q31.2.length (q31.2.flatMap e_api_Step), mOb kS false (eN .i64) q6.2.2.1] ?_ ?_
      · refine j_cond rfl (fun hb => ?_) (fun hb => ?_)
        · have h33 := cT hq31 hb
          obtain ⟨y34, hy34, h35⟩ := bi_ok h33
          refine go hΓ 6 rfl ?_
          refine eo_callF [0] (I y34.1) [.box 25 [.d (Sl (eN .i64) y34.2.L), I y34.2.v_at], .row 37 13 ([] : List T_api_Step).length (([] : List T_api_Step).flatMap e_api_Step), .row 37 13 y21.length (y21.flatMap e_api_Step), mOb kS false (eN .i64) q6.2.2.1] (callable Tryz.func26 rfl rfl) (c_lanemake_Stream_Next hy34) rfl (Nat.le_of_ble_eq_true rfl) rfl rfl rfl rfl rfl rfl rfl rfl rfl rfl ?_
          obtain ⟨x36, hx36, h37⟩ := bi_ok h35
          have hj38 := getZ_at hx36
          refine eo_o rfl (op_elemRowZ hΓ hx36 rfl rfl rfl rfl rfl rfl) ?_
          obtain ⟨y39, hy39, h40⟩ := bi_ok h37
          refine go_ops hΓ 6 rfl ?_
          refine eo_callF [0] (I y39.1) [.box 25 [.d (Sl (eN .i64) y39.2.L), I y39.2.v_at], .row 37 13 ([] : List T_api_Step).length (([] : List T_api_Step).flatMap e_api_Step), .row 37 13 y21.length (y21.flatMap e_api_Step), mOb kS false (eN .i64) q6.2.2.1] (callable Tryz.func26 rfl rfl) (c_lanemake_Stream_Next hy39) rfl (Nat.le_of_ble_eq_true rfl) rfl rfl rfl rfl rfl rfl rfl rfl rfl rfl ?_
          refine go_ops hΓ 9 rfl ?_
          refine j_cond rfl (fun hb => ?_) (fun hb => ?_)
          · have h41 := cT h40 hb
            refine go hΓ 3 rfl ?_
            refine eo_litT hΓ (enc := (eN .i64)) [-1, 0, 345686400] rfl rfl rfl rfl rfl rfl rfl rfl rfl rfl rfl rfl (Nat.le_of_ble_eq_true rfl) ?_
            obtain ⟨y42, hy42, h43⟩ := bi_ok h41
            refine eo_callF [0] (I y42.1) [.box 25 [.d (Sl (eN .i64) y42.2.L), I y42.2.v_at], .row 37 13 ([] : List T_api_Step).length (([] : List T_api_Step).flatMap e_api_Step), .row 37 13 y21.length (y21.flatMap e_api_Step), mOb kS false (eN .i64) q6.2.2.1] (callable Tryz.func13 rfl rfl) (c_lanemake_Stream_Pick hy42) rfl (Nat.le_of_ble_eq_true rfl) rfl rfl rfl rfl rfl rfl rfl rfl rfl rfl ?_
            refine go_ops hΓ 2 rfl ?_
            refine eo_storeRowZ hΓ (enc := e_api_Step) (z' := (⟨y42.1, x36.Server, x36.No, x36.Kind, x36.By, x36.Node, x36.Join, x36.Public, x36.Name, x36.Tags, x36.Until, x36.Uses, x36.Ready⟩ : T_api_Step)) y34.1.toNat 0 hj38 rfl rfl rfl rfl (fun _ => rfl) rfl rfl rfl rfl rfl rfl (Nat.le_of_ble_eq_true rfl) ?_
            refine eo_hp [.box 25 [.d (Sl (eN .i64) y42.2.L), I y42.2.v_at], .row 37 13 ([] : List T_api_Step).length (([] : List T_api_Step).flatMap e_api_Step), .row 37 13 (y21.set y34.1.toNat (⟨y42.1, x36.Server, x36.No, x36.Kind, x36.By, x36.Node, x36.Join, x36.Public, x36.Name, x36.Tags, x36.Until, x36.Uses, x36.Ready⟩ : T_api_Step)).length ((y21.set y34.1.toNat (⟨y42.1, x36.Server, x36.No, x36.Kind, x36.By, x36.Node, x36.Join, x36.Public, x36.Name, x36.Tags, x36.Until, x36.Uses, x36.Ready⟩ : T_api_Step)).flatMap e_api_Step), mOb kS false (eN .i64) q6.2.2.1] rfl ?_
            refine eo_relen 5 (n' := (y21.set y34.1.toNat (⟨y42.1, x36.Server, x36.No, x36.Kind, x36.By, x36.Node, x36.Join, x36.Public, x36.Name, x36.Tags, x36.Until, x36.Uses, x36.Ready⟩ : T_api_Step)).length) rfl List.length_set.symm ?_
            refine go_ops hΓ 2 rfl ?_
            obtain rfl := Option.some.inj h43
            exact ⟨⟨rfl, trivial⟩, [], rfl, .inl rfl⟩
          · have h44 := cF h40 hb
            refine go hΓ 6 rfl ?_
            refine j_cond rfl (fun hb => ?_) (fun hb => ?_)
            · have h45 := cT h44 hb
              refine go hΓ 4 rfl ?_
              refine eo_litT hΓ (enc := eS) [[], [115, 49]] rfl rfl rfl rfl rfl rfl rfl rfl rfl rfl rfl rfl (Nat.le_of_ble_eq_true rfl) ?_
              obtain ⟨y46, hy46, h47⟩ := bi_ok h45
              refine eo_callF [0] (S y46.1) [.box 25 [.d (Sl (eN .i64) y46.2.L), I y46.2.v_at], .row 37 13 ([] : List T_api_Step).length (([] : List T_api_Step).flatMap e_api_Step), .row 37 13 y21.length (y21.flatMap e_api_Step), mOb kS false (eN .i64) q6.2.2.1] (callable Tryz.func22 rfl rfl) (c_lanemake_Stream_Some hy46) rfl (Nat.le_of_ble_eq_true rfl) rfl rfl rfl rfl rfl rfl rfl rfl rfl rfl ?_
              refine go_ops hΓ 1 rfl ?_
              refine eo_litT hΓ (enc := (eN .i64)) [0, 1, 1000001] rfl rfl rfl rfl rfl rfl rfl rfl rfl rfl rfl rfl (Nat.le_of_ble_eq_true rfl) ?_
              obtain ⟨y48, hy48, h49⟩ := bi_ok h47
              refine eo_callF [0] (I y48.1) [.box 25 [.d (Sl (eN .i64) y48.2.L), I y48.2.v_at], .row 37 13 ([] : List T_api_Step).length (([] : List T_api_Step).flatMap e_api_Step), .row 37 13 y21.length (y21.flatMap e_api_Step), mOb kS false (eN .i64) q6.2.2.1] (callable Tryz.func13 rfl rfl) (c_lanemake_Stream_Pick hy48) rfl (Nat.le_of_ble_eq_true rfl) rfl rfl rfl rfl rfl rfl rfl rfl rfl rfl ?_
              refine go_ops hΓ 2 rfl ?_
              refine eo_storeRowZ hΓ (enc := e_api_Step) (z' := (⟨x36.At, y46.1, x36.No, x36.Kind, x36.By, x36.Node, x36.Join, x36.Public, x36.Name, x36.Tags, x36.Until, x36.Uses, x36.Ready⟩ : T_api_Step)) y34.1.toNat 1 hj38 rfl rfl rfl rfl (fun _ => rfl) rfl rfl rfl rfl rfl rfl (Nat.le_of_ble_eq_true rfl) ?_
              refine eo_hp [.box 25 [.d (Sl (eN .i64) y48.2.L), I y48.2.v_at], .row 37 13 ([] : List T_api_Step).length (([] : List T_api_Step).flatMap e_api_Step), .row 37 13 (y21.set y34.1.toNat (⟨x36.At, y46.1, x36.No, x36.Kind, x36.By, x36.Node, x36.Join, x36.Public, x36.Name, x36.Tags, x36.Until, x36.Uses, x36.Ready⟩ : T_api_Step)).length ((y21.set y34.1.toNat (⟨x36.At, y46.1, x36.No, x36.Kind, x36.By, x36.Node, x36.Join, x36.Public, x36.Name, x36.Tags, x36.Until, x36.Uses, x36.Ready⟩ : T_api_Step)).flatMap e_api_Step), mOb kS false (eN .i64) q6.2.2.1] rfl ?_
              have hj50 := set_at (y := (⟨x36.At, y46.1, x36.No, x36.Kind, x36.By, x36.Node, x36.Join, x36.Public, x36.Name, x36.Tags, x36.Until, x36.Uses, x36.Ready⟩ : T_api_Step)) hj38
              refine eo_relen 5 (n' := (y21.set y34.1.toNat (⟨x36.At, y46.1, x36.No, x36.Kind, x36.By, x36.Node, x36.Join, x36.Public, x36.Name, x36.Tags, x36.Until, x36.Uses, x36.Ready⟩ : T_api_Step)).length) rfl List.length_set.symm ?_
              refine go_ops hΓ 2 rfl ?_
              refine eo_storeRowZ hΓ (enc := e_api_Step) (z' := (⟨(⟨x36.At, y46.1, x36.No, x36.Kind, x36.By, x36.Node, x36.Join, x36.Public, x36.Name, x36.Tags, x36.Until, x36.Uses, x36.Ready⟩ : T_api_Step).At, (⟨x36.At, y46.1, x36.No, x36.Kind, x36.By, x36.Node, x36.Join, x36.Public, x36.Name, x36.Tags, x36.Until, x36.Uses, x36.Ready⟩ : T_api_Step).Server, y48.1, (⟨x36.At, y46.1, x36.No, x36.Kind, x36.By, x36.Node, x36.Join, x36.Public, x36.Name, x36.Tags, x36.Until, x36.Uses, x36.Ready⟩ : T_api_Step).Kind, (⟨x36.At, y46.1, x36.No, x36.Kind, x36.By, x36.Node, x36.Join, x36.Public, x36.Name, x36.Tags, x36.Until, x36.Uses, x36.Ready⟩ : T_api_Step).By, (⟨x36.At, y46.1, x36.No, x36.Kind, x36.By, x36.Node, x36.Join, x36.Public, x36.Name, x36.Tags, x36.Until, x36.Uses, x36.Ready⟩ : T_api_Step).Node, (⟨x36.At, y46.1, x36.No, x36.Kind, x36.By, x36.Node, x36.Join, x36.Public, x36.Name, x36.Tags, x36.Until, x36.Uses, x36.Ready⟩ : T_api_Step).Join, (⟨x36.At, y46.1, x36.No, x36.Kind, x36.By, x36.Node, x36.Join, x36.Public, x36.Name, x36.Tags, x36.Until, x36.Uses, x36.Ready⟩ : T_api_Step).Public, (⟨x36.At, y46.1, x36.No, x36.Kind, x36.By, x36.Node, x36.Join, x36.Public, x36.Name, x36.Tags, x36.Until, x36.Uses, x36.Ready⟩ : T_api_Step).Name, (⟨x36.At, y46.1, x36.No, x36.Kind, x36.By, x36.Node, x36.Join, x36.Public, x36.Name, x36.Tags, x36.Until, x36.Uses, x36.Ready⟩ : T_api_Step).Tags, (⟨x36.At, y46.1, x36.No, x36.Kind, x36.By, x36.Node, x36.Join, x36.Public, x36.Name, x36.Tags, x36.Until, x36.Uses, x36.Ready⟩ : T_api_Step).Until, (⟨x36.At, y46.1, x36.No, x36.Kind, x36.By, x36.Node, x36.Join, x36.Public, x36.Name, x36.Tags, x36.Until, x36.Uses, x36.Ready⟩ : T_api_Step).Uses, (⟨x36.At, y46.1, x36.No, x36.Kind, x36.By, x36.Node, x36.Join, x36.Public, x36.Name, x36.Tags, x36.Until, x36.Uses, x36.Ready⟩ : T_api_Step).Ready⟩ : T_api_Step)) y34.1.toNat 2 hj50 rfl rfl rfl rfl (fun _ => rfl) rfl rfl rfl rfl rfl rfl (Nat.le_of_ble_eq_true rfl) ?_
              refine eo_hp [.box 25 [.d (Sl (eN .i64) y48.2.L), I y48.2.v_at], .row 37 13 ([] : List T_api_Step).length (([] : List T_api_Step).flatMap e_api_Step), .row 37 13 ((y21.set y34.1.toNat (⟨x36.At, y46.1, x36.No, x36.Kind, x36.By, x36.Node, x36.Join, x36.Public, x36.Name, x36.Tags, x36.Until, x36.Uses, x36.Ready⟩ : T_api_Step)).set y34.1.toNat (⟨(⟨x36.At, y46.1, x36.No, x36.Kind, x36.By, x36.Node, x36.Join, x36.Public, x36.Name, x36.Tags, x36.Until, x36.Uses, x36.Ready⟩ : T_api_Step).At, (⟨x36.At, y46.1, x36.No, x36.Kind, x36.By, x36.Node, x36.Join, x36.Public, x36.Name, x36.Tags, x36.Until, x36.Uses, x36.Ready⟩ : T_api_Step).Server, y48.1, (⟨x36.At, y46.1, x36.No, x36.Kind, x36.By, x36.Node, x36.Join, x36.Public, x36.Name, x36.Tags, x36.Until, x36.Uses, x36.Ready⟩ : T_api_Step).Kind, (⟨x36.At, y46.1, x36.No, x36.Kind, x36.By, x36.Node, x36.Join, x36.Public, x36.Name, x36.Tags, x36.Until, x36.Uses, x36.Ready⟩ : T_api_Step).By, (⟨x36.At, y46.1, x36.No, x36.Kind, x36.By, x36.Node, x36.Join, x36.Public, x36.Name, x36.Tags, x36.Until, x36.Uses, x36.Ready⟩ : T_api_Step).Node, (⟨x36.At, y46.1, x36.No, x36.Kind, x36.By, x36.Node, x36.Join, x36.Public, x36.Name, x36.Tags, x36.Until, x36.Uses, x36.Ready⟩ : T_api_Step).Join, (⟨x36.At, y46.1, x36.No, x36.Kind, x36.By, x36.Node, x36.Join, x36.Public, x36.Name, x36.Tags, x36.Until, x36.Uses, x36.Ready⟩ : T_api_Step).Public, (⟨x36.At, y46.1, x36.No, x36.Kind, x36.By, x36.Node, x36.Join, x36.Public, x36.Name, x36.Tags, x36.Until, x36.Uses, x36.Ready⟩ : T_api_Step).Name, (⟨x36.At, y46.1, x36.No, x36.Kind, x36.By, x36.Node, x36.Join, x36.Public, x36.Name, x36.Tags, x36.Until, x36.Uses, x36.Ready⟩ : T_api_Step).Tags, (⟨x36.At, y46.1, x36.No, x36.Kind, x36.By, x36.Node, x36.Join, x36.Public, x36.Name, x36.Tags, x36.Until, x36.Uses, x36.Ready⟩ : T_api_Step).Until, (⟨x36.At, y46.1, x36.No, x36.Kind, x36.By, x36.Node, x36.Join, x36.Public, x36.Name, x36.Tags, x36.Until, x36.Uses, x36.Ready⟩ : T_api_Step).Uses, (⟨x36.At, y46.1, x36.No, x36.Kind, x36.By, x36.Node, x36.Join, x36.Public, x36.Name, x36.Tags, x36.Until, x36.Uses, x36.Ready⟩ : T_api_Step).Ready⟩ : T_api_Step)).length (((y21.set y34.1.toNat (⟨x36.At, y46.1, x36.No, x36.Kind, x36.By, x36.Node, x36.Join, x36.Public, x36.Name, x36.Tags, x36.Until, x36.Uses, x36.Ready⟩ : T_api_Step)).set y34.1.toNat (⟨(⟨x36.At, y46.1, x36.No, x36.Kind, x36.By, x36.Node, x36.Join, x36.Public, x36.Name, x36.Tags, x36.Until, x36.Uses, x36.Ready⟩ : T_api_Step).At, (⟨x36.At, y46.1, x36.No, x36.Kind, x36.By, x36.Node, x36.Join, x36.Public, x36.Name, x36.Tags, x36.Until, x36.Uses, x36.Ready⟩ : T_api_Step).Server, y48.1, (⟨x36.At, y46.1, x36.No, x36.Kind, x36.By, x36.Node, x36.Join, x36.Public, x36.Name, x36.Tags, x36.Until, x36.Uses, x36.Ready⟩ : T_api_Step).Kind, (⟨x36.At, y46.1, x36.No, x36.Kind, x36.By, x36.Node, x36.Join, x36.Public, x36.Name, x36.Tags, x36.Until, x36.Uses, x36.Ready⟩ : T_api_Step).By, (⟨x36.At, y46.1, x36.No, x36.Kind, x36.By, x36.Node, x36.Join, x36.Public, x36.Name, x36.Tags, x36.Until, x36.Uses, x36.Ready⟩ : T_api_Step).Node, (⟨x36.At, y46.1, x36.No, x36.Kind, x36.By, x36.Node, x36.Join, x36.Public, x36.Name, x36.Tags, x36.Until, x36.Uses, x36.Ready⟩ : T_api_Step).Join, (⟨x36.At, y46.1, x36.No, x36.Kind, x36.By, x36.Node, x36.Join, x36.Public, x36.Name, x36.Tags, x36.Until, x36.Uses, x36.Ready⟩ : T_api_Step).Public, (⟨x36.At, y46.1, x36.No, x36.Kind, x36.By, x36.Node, x36.Join, x36.Public, x36.Name, x36.Tags, x36.Until, x36.Uses, x36.Ready⟩ : T_api_Step).Name, (⟨x36.At, y46.1, x36.No, x36.Kind, x36.By, x36.Node, x36.Join, x36.Public, x36.Name, x36.Tags, x36.Until, x36.Uses, x36.Ready⟩ : T_api_Step).Tags, (⟨x36.At, y46.1, x36.No, x36.Kind, x36.By, x36.Node, x36.Join, x36.Public, x36.Name, x36.Tags, x36.Until, x36.Uses, x36.Ready⟩ : T_api_Step).Until, (⟨x36.At, y46.1, x36.No, x36.Kind, x36.By, x36.Node, x36.Join, x36.Public, x36.Name, x36.Tags, x36.Until, x36.Uses, x36.Ready⟩ : T_api_Step).Uses, (⟨x36.At, y46.1, x36.No, x36.Kind, x36.By, x36.Node, x36.Join, x36.Public, x36.Name, x36.Tags, x36.Until, x36.Uses, x36.Ready⟩ : T_api_Step).Ready⟩ : T_api_Step)).flatMap e_api_Step), mOb kS false (eN .i64) q6.2.2.1] rfl ?_
              refine eo_relen 5 (n' := ((y21.set y34.1.toNat (⟨x36.At, y46.1, x36.No, x36.Kind, x36.By, x36.Node, x36.Join, x36.Public, x36.Name, x36.Tags, x36.Until, x36.Uses, x36.Ready⟩ : T_api_Step)).set y34.1.toNat (⟨(⟨x36.At, y46.1, x36.No, x36.Kind, x36.By, x36.Node, x36.Join, x36.Public, x36.Name, x36.Tags, x36.Until, x36.Uses, x36.Ready⟩ : T_api_Step).At, (⟨x36.At, y46.1, x36.No, x36.Kind, x36.By, x36.Node, x36.Join, x36.Public, x36.Name, x36.Tags, x36.Until, x36.Uses, x36.Ready⟩ : T_api_Step).Server, y48.1, (⟨x36.At, y46.1, x36.No, x36.Kind, x36.By, x36.Node, x36.Join, x36.Public, x36.Name, x36.Tags, x36.Until, x36.Uses, x36.Ready⟩ : T_api_Step).Kind, (⟨x36.At, y46.1, x36.No, x36.Kind, x36.By, x36.Node, x36.Join, x36.Public, x36.Name, x36.Tags, x36.Until, x36.Uses, x36.Ready⟩ : T_api_Step).By, (⟨x36.At, y46.1, x36.No, x36.Kind, x36.By, x36.Node, x36.Join, x36.Public, x36.Name, x36.Tags, x36.Until, x36.Uses, x36.Ready⟩ : T_api_Step).Node, (⟨x36.At, y46.1, x36.No, x36.Kind, x36.By, x36.Node, x36.Join, x36.Public, x36.Name, x36.Tags, x36.Until, x36.Uses, x36.Ready⟩ : T_api_Step).Join, (⟨x36.At, y46.1, x36.No, x36.Kind, x36.By, x36.Node, x36.Join, x36.Public, x36.Name, x36.Tags, x36.Until, x36.Uses, x36.Ready⟩ : T_api_Step).Public, (⟨x36.At, y46.1, x36.No, x36.Kind, x36.By, x36.Node, x36.Join, x36.Public, x36.Name, x36.Tags, x36.Until, x36.Uses, x36.Ready⟩ : T_api_Step).Name, (⟨x36.At, y46.1, x36.No, x36.Kind, x36.By, x36.Node, x36.Join, x36.Public, x36.Name, x36.Tags, x36.Until, x36.Uses, x36.Ready⟩ : T_api_Step).Tags, (⟨x36.At, y46.1, x36.No, x36.Kind, x36.By, x36.Node, x36.Join, x36.Public, x36.Name, x36.Tags, x36.Until, x36.Uses, x36.Ready⟩ : T_api_Step).Until, (⟨x36.At, y46.1, x36.No, x36.Kind, x36.By, x36.Node, x36.Join, x36.Public, x36.Name, x36.Tags, x36.Until, x36.Uses, x36.Ready⟩ : T_api_Step).Uses, (⟨x36.At, y46.1, x36.No, x36.Kind, x36.By, x36.Node, x36.Join, x36.Public, x36.Name, x36.Tags, x36.Until, x36.Uses, x36.Ready⟩ : T_api_Step).Ready⟩ : T_api_Step)).length) rfl List.length_set.symm ?_
              refine go_ops hΓ 2 rfl ?_
              obtain rfl := Option.some.inj h49
              exact ⟨⟨rfl, trivial⟩, [], rfl, .inl rfl⟩
            · have h51 := cF h44 hb
              refine go hΓ 6 rfl ?_
              refine j_cond rfl (fun hb => ?_) (fun hb => ?_)
              · have h52 := cT h51 hb
                refine go hΓ 3 rfl ?_
                refine eo_litT hΓ (enc := (eN .i64)) [0, 10, 3] rfl rfl rfl rfl rfl rfl rfl rfl rfl rfl rfl rfl (Nat.le_of_ble_eq_true rfl) ?_
                obtain ⟨y53, hy53, h54⟩ := bi_ok h52
                refine eo_callF [0] (I y53.1) [.box 25 [.d (Sl (eN .i64) y53.2.L), I y53.2.v_at], .row 37 13 ([] : List T_api_Step).length (([] : List T_api_Step).flatMap e_api_Step), .row 37 13 y21.length (y21.flatMap e_api_Step), mOb kS false (eN .i64) q6.2.2.1] (callable Tryz.func13 rfl rfl) (c_lanemake_Stream_Pick hy53) rfl (Nat.le_of_ble_eq_true rfl) rfl rfl rfl rfl rfl rfl rfl rfl rfl rfl ?_
                refine go_ops hΓ 2 rfl ?_
                refine eo_storeRowZ hΓ (enc := e_api_Step) (z' := (⟨x36.At, x36.Server, x36.No, y53.1, x36.By, x36.Node, x36.Join, x36.Public, x36.Name, x36.Tags, x36.Until, x36.Uses, x36.Ready⟩ : T_api_Step)) y34.1.toNat 3 hj38 rfl rfl rfl rfl (fun _ => rfl) rfl rfl rfl rfl rfl rfl (Nat.le_of_ble_eq_true rfl) ?_
                refine eo_hp [.box 25 [.d (Sl (eN .i64) y53.2.L), I y53.2.v_at], .row 37 13 ([] : List T_api_Step).length (([] : List T_api_Step).flatMap e_api_Step), .row 37 13 (y21.set y34.1.toNat (⟨x36.At, x36.Server, x36.No, y53.1, x36.By, x36.Node, x36.Join, x36.Public, x36.Name, x36.Tags, x36.Until, x36.Uses, x36.Ready⟩ : T_api_Step)).length ((y21.set y34.1.toNat (⟨x36.At, x36.Server, x36.No, y53.1, x36.By, x36.Node, x36.Join, x36.Public, x36.Name, x36.Tags, x36.Until, x36.Uses, x36.Ready⟩ : T_api_Step)).flatMap e_api_Step), mOb kS false (eN .i64) q6.2.2.1] rfl ?_
                refine eo_relen 5 (n' := (y21.set y34.1.toNat (⟨x36.At, x36.Server, x36.No, y53.1, x36.By, x36.Node, x36.Join, x36.Public, x36.Name, x36.Tags, x36.Until, x36.Uses, x36.Ready⟩ : T_api_Step)).length) rfl List.length_set.symm ?_
                refine go_ops hΓ 2 rfl ?_
                obtain rfl := Option.some.inj h54
                exact ⟨⟨rfl, trivial⟩, [], rfl, .inl rfl⟩
              · have h55 := cF h51 hb
                refine go hΓ 6 rfl ?_
                refine j_cond rfl (fun hb => ?_) (fun hb => ?_)
                · have h56 := cT h55 hb
                  refine go hΓ 4 rfl ?_
                  refine eo_litT hΓ (enc := eS) [[], [65], [97, 110, 110]] rfl rfl rfl rfl rfl rfl rfl rfl rfl rfl rfl rfl (Nat.le_of_ble_eq_true rfl) ?_
                  obtain ⟨y57, hy57, h58⟩ := bi_ok h56
                  refine eo_callF [0] (S y57.1) [.box 25 [.d (Sl (eN .i64) y57.2.L), I y57.2.v_at], .row 37 13 ([] : List T_api_Step).length (([] : List T_api_Step).flatMap e_api_Step), .row 37 13 y21.length (y21.flatMap e_api_Step), mOb kS false (eN .i64) q6.2.2.1] (callable Tryz.func22 rfl rfl) (c_lanemake_Stream_Some hy57) rfl (Nat.le_of_ble_eq_true rfl) rfl rfl rfl rfl rfl rfl rfl rfl rfl rfl ?_
                  refine go_ops hΓ 1 rfl ?_
                  refine eo_litT hΓ (enc := eS) [[], [110, 97]] rfl rfl rfl rfl rfl rfl rfl rfl rfl rfl rfl rfl (Nat.le_of_ble_eq_true rfl) ?_
                  obtain ⟨y59, hy59, h60⟩ := bi_ok h58
                  refine eo_callF [0] (S y59.1) [.box 25 [.d (Sl (eN .i64) y59.2.L), I y59.2.v_at], .row 37 13 ([] : List T_api_Step).length (([] : List T_api_Step).flatMap e_api_Step), .row 37 13 y21.length (y21.flatMap e_api_Step), mOb kS false (eN .i64) q6.2.2.1] (callable Tryz.func22 rfl rfl) (c_lanemake_Stream_Some hy59) rfl (Nat.le_of_ble_eq_true rfl) rfl rfl rfl rfl rfl rfl rfl rfl rfl rfl ?_
                  refine go_ops hΓ 2 rfl ?_
                  refine eo_storeRowZ hΓ (enc := e_api_Step) (z' := (⟨x36.At, x36.Server, x36.No, x36.Kind, y57.1, x36.Node, x36.Join, x36.Public, x36.Name, x36.Tags, x36.Until, x36.Uses, x36.Ready⟩ : T_api_Step)) y34.1.toNat 4 hj38 rfl rfl rfl rfl (fun _ => rfl) rfl rfl rfl rfl rfl rfl (Nat.le_of_ble_eq_true rfl) ?_
                  refine eo_hp [.box 25 [.d (Sl (eN .i64) y59.2.L), I y59.2.v_at], .row 37 13 ([] : List T_api_Step).length (([] : List T_api_Step).flatMap e_api_Step), .row 37 13 (y21.set y34.1.toNat (⟨x36.At, x36.Server, x36.No, x36.Kind, y57.1, x36.Node, x36.Join, x36.Public, x36.Name, x36.Tags, x36.Until, x36.Uses, x36.Ready⟩ : T_api_Step)).length ((y21.set y34.1.toNat (⟨x36.At, x36.Server, x36.No, x36.Kind, y57.1, x36.Node, x36.Join, x36.Public, x36.Name, x36.Tags, x36.Until, x36.Uses, x36.Ready⟩ : T_api_Step)).flatMap e_api_Step), mOb kS false (eN .i64) q6.2.2.1] rfl ?_
                  have hj61 := set_at (y := (⟨x36.At, x36.Server, x36.No, x36.Kind, y57.1, x36.Node, x36.Join, x36.Public, x36.Name, x36.Tags, x36.Until, x36.Uses, x36.Ready⟩ : T_api_Step)) hj38
                  refine eo_relen 5 (n' := (y21.set y34.1.toNat (⟨x36.At, x36.Server, x36.No, x36.Kind, y57.1, x36.Node, x36.Join, x36.Public, x36.Name, x36.Tags, x36.Until, x36.Uses, x36.Ready⟩ : T_api_Step)).length) rfl List.length_set.symm ?_
                  refine go_ops hΓ 2 rfl ?_
                  refine eo_storeRowZ hΓ (enc := e_api_Step) (z' := (⟨(⟨x36.At, x36.Server, x36.No, x36.Kind, y57.1, x36.Node, x36.Join, x36.Public, x36.Name, x36.Tags, x36.Until, x36.Uses, x36.Ready⟩ : T_api_Step).At, (⟨x36.At, x36.Server, x36.No, x36.Kind, y57.1, x36.Node, x36.Join, x36.Public, x36.Name, x36.Tags, x36.Until, x36.Uses, x36.Ready⟩ : T_api_Step).Server, (⟨x36.At, x36.Server, x36.No, x36.Kind, y57.1, x36.Node, x36.Join, x36.Public, x36.Name, x36.Tags, x36.Until, x36.Uses, x36.Ready⟩ : T_api_Step).No, (⟨x36.At, x36.Server, x36.No, x36.Kind, y57.1, x36.Node, x36.Join, x36.Public, x36.Name, x36.Tags, x36.Until, x36.Uses, x36.Ready⟩ : T_api_Step).Kind, (⟨x36.At, x36.Server, x36.No, x36.Kind, y57.1, x36.Node, x36.Join, x36.Public, x36.Name, x36.Tags, x36.Until, x36.Uses, x36.Ready⟩ : T_api_Step).By, y59.1, (⟨x36.At, x36.Server, x36.No, x36.Kind, y57.1, x36.Node, x36.Join, x36.Public, x36.Name, x36.Tags, x36.Until, x36.Uses, x36.Ready⟩ : T_api_Step).Join, (⟨x36.At, x36.Server, x36.No, x36.Kind, y57.1, x36.Node, x36.Join, x36.Public, x36.Name, x36.Tags, x36.Until, x36.Uses, x36.Ready⟩ : T_api_Step).Public, (⟨x36.At, x36.Server, x36.No, x36.Kind, y57.1, x36.Node, x36.Join, x36.Public, x36.Name, x36.Tags, x36.Until, x36.Uses, x36.Ready⟩ : T_api_Step).Name, (⟨x36.At, x36.Server, x36.No, x36.Kind, y57.1, x36.Node, x36.Join, x36.Public, x36.Name, x36.Tags, x36.Until, x36.Uses, x36.Ready⟩ : T_api_Step).Tags, (⟨x36.At, x36.Server, x36.No, x36.Kind, y57.1, x36.Node, x36.Join, x36.Public, x36.Name, x36.Tags, x36.Until, x36.Uses, x36.Ready⟩ : T_api_Step).Until, (⟨x36.At, x36.Server, x36.No, x36.Kind, y57.1, x36.Node, x36.Join, x36.Public, x36.Name, x36.Tags, x36.Until, x36.Uses, x36.Ready⟩ : T_api_Step).Uses, (⟨x36.At, x36.Server, x36.No, x36.Kind, y57.1, x36.Node, x36.Join, x36.Public, x36.Name, x36.Tags, x36.Until, x36.Uses, x36.Ready⟩ : T_api_Step).Ready⟩ : T_api_Step)) y34.1.toNat 5 hj61 rfl rfl rfl rfl (fun _ => rfl) rfl rfl rfl rfl rfl rfl (Nat.le_of_ble_eq_true rfl) ?_
                  refine eo_hp [.box 25 [.d (Sl (eN .i64) y59.2.L), I y59.2.v_at], .row 37 13 ([] : List T_api_Step).length (([] : List T_api_Step).flatMap e_api_Step), .row 37 13 ((y21.set y34.1.toNat (⟨x36.At, x36.Server, x36.No, x36.Kind, y57.1, x36.Node, x36.Join, x36.Public, x36.Name, x36.Tags, x36.Until, x36.Uses, x36.Ready⟩ : T_api_Step)).set y34.1.toNat (⟨(⟨x36.At, x36.Server, x36.No, x36.Kind, y57.1, x36.Node, x36.Join, x36.Public, x36.Name, x36.Tags, x36.Until, x36.Uses, x36.Ready⟩ : T_api_Step).At, (⟨x36.At, x36.Server, x36.No, x36.Kind, y57.1, x36.Node, x36.Join, x36.Public, x36.Name, x36.Tags, x36.Until, x36.Uses, x36.Ready⟩ : T_api_Step).Server, (⟨x36.At, x36.Server, x36.No, x36.Kind, y57.1, x36.Node, x36.Join, x36.Public, x36.Name, x36.Tags, x36.Until, x36.Uses, x36.Ready⟩ : T_api_Step).No, (⟨x36.At, x36.Server, x36.No, x36.Kind, y57.1, x36.Node, x36.Join, x36.Public, x36.Name, x36.Tags, x36.Until, x36.Uses, x36.Ready⟩ : T_api_Step).Kind, (⟨x36.At, x36.Server, x36.No, x36.Kind, y57.1, x36.Node, x36.Join, x36.Public, x36.Name, x36.Tags, x36.Until, x36.Uses, x36.Ready⟩ : T_api_Step).By, y59.1, (⟨x36.At, x36.Server, x36.No, x36.Kind, y57.1, x36.Node, x36.Join, x36.Public, x36.Name, x36.Tags, x36.Until, x36.Uses, x36.Ready⟩ : T_api_Step).Join, (⟨x36.At, x36.Server, x36.No, x36.Kind, y57.1, x36.Node, x36.Join, x36.Public, x36.Name, x36.Tags, x36.Until, x36.Uses, x36.Ready⟩ : T_api_Step).Public, (⟨x36.At, x36.Server, x36.No, x36.Kind, y57.1, x36.Node, x36.Join, x36.Public, x36.Name, x36.Tags, x36.Until, x36.Uses, x36.Ready⟩ : T_api_Step).Name, (⟨x36.At, x36.Server, x36.No, x36.Kind, y57.1, x36.Node, x36.Join, x36.Public, x36.Name, x36.Tags, x36.Until, x36.Uses, x36.Ready⟩ : T_api_Step).Tags, (⟨x36.At, x36.Server, x36.No, x36.Kind, y57.1, x36.Node, x36.Join, x36.Public, x36.Name, x36.Tags, x36.Until, x36.Uses, x36.Ready⟩ : T_api_Step).Until, (⟨x36.At, x36.Server, x36.No, x36.Kind, y57.1, x36.Node, x36.Join, x36.Public, x36.Name, x36.Tags, x36.Until, x36.Uses, x36.Ready⟩ : T_api_Step).Uses, (⟨x36.At, x36.Server, x36.No, x36.Kind, y57.1, x36.Node, x36.Join, x36.Public, x36.Name, x36.Tags, x36.Until, x36.Uses, x36.Ready⟩ : T_api_Step).Ready⟩ : T_api_Step)).length (((y21.set y34.1.toNat (⟨x36.At, x36.Server, x36.No, x36.Kind, y57.1, x36.Node, x36.Join, x36.Public, x36.Name, x36.Tags, x36.Until, x36.Uses, x36.Ready⟩ : T_api_Step)).set y34.1.toNat (⟨(⟨x36.At, x36.Server, x36.No, x36.Kind, y57.1, x36.Node, x36.Join, x36.Public, x36.Name, x36.Tags, x36.Until, x36.Uses, x36.Ready⟩ : T_api_Step).At, (⟨x36.At, x36.Server, x36.No, x36.Kind, y57.1, x36.Node, x36.Join, x36.Public, x36.Name, x36.Tags, x36.Until, x36.Uses, x36.Ready⟩ : T_api_Step).Server, (⟨x36.At, x36.Server, x36.No, x36.Kind, y57.1, x36.Node, x36.Join, x36.Public, x36.Name, x36.Tags, x36.Until, x36.Uses, x36.Ready⟩ : T_api_Step).No, (⟨x36.At, x36.Server, x36.No, x36.Kind, y57.1, x36.Node, x36.Join, x36.Public, x36.Name, x36.Tags, x36.Until, x36.Uses, x36.Ready⟩ : T_api_Step).Kind, (⟨x36.At, x36.Server, x36.No, x36.Kind, y57.1, x36.Node, x36.Join, x36.Public, x36.Name, x36.Tags, x36.Until, x36.Uses, x36.Ready⟩ : T_api_Step).By, y59.1, (⟨x36.At, x36.Server, x36.No, x36.Kind, y57.1, x36.Node, x36.Join, x36.Public, x36.Name, x36.Tags, x36.Until, x36.Uses, x36.Ready⟩ : T_api_Step).Join, (⟨x36.At, x36.Server, x36.No, x36.Kind, y57.1, x36.Node, x36.Join, x36.Public, x36.Name, x36.Tags, x36.Until, x36.Uses, x36.Ready⟩ : T_api_Step).Public, (⟨x36.At, x36.Server, x36.No, x36.Kind, y57.1, x36.Node, x36.Join, x36.Public, x36.Name, x36.Tags, x36.Until, x36.Uses, x36.Ready⟩ : T_api_Step).Name, (⟨x36.At, x36.Server, x36.No, x36.Kind, y57.1, x36.Node, x36.Join, x36.Public, x36.Name, x36.Tags, x36.Until, x36.Uses, x36.Ready⟩ : T_api_Step).Tags, (⟨x36.At, x36.Server, x36.No, x36.Kind, y57.1, x36.Node, x36.Join, x36.Public, x36.Name, x36.Tags, x36.Until, x36.Uses, x36.Ready⟩ : T_api_Step).Until, (⟨x36.At, x36.Server, x36.No, x36.Kind, y57.1, x36.Node, x36.Join, x36.Public, x36.Name, x36.Tags, x36.Until, x36.Uses, x36.Ready⟩ : T_api_Step).Uses, (⟨x36.At, x36.Server, x36.No, x36.Kind, y57.1, x36.Node, x36.Join, x36.Public, x36.Name, x36.Tags, x36.Until, x36.Uses, x36.Ready⟩ : T_api_Step).Ready⟩ : T_api_Step)).flatMap e_api_Step), mOb kS false (eN .i64) q6.2.2.1] rfl ?_
                  refine eo_relen 5 (n' := ((y21.set y34.1.toNat (⟨x36.At, x36.Server, x36.No, x36.Kind, y57.1, x36.Node, x36.Join, x36.Public, x36.Name, x36.Tags, x36.Until, x36.Uses, x36.Ready⟩ : T_api_Step)).set y34.1.toNat (⟨(⟨x36.At, x36.Server, x36.No, x36.Kind, y57.1, x36.Node, x36.Join, x36.Public, x36.Name, x36.Tags, x36.Until, x36.Uses, x36.Ready⟩ : T_api_Step).At, (⟨x36.At, x36.Server, x36.No, x36.Kind, y57.1, x36.Node, x36.Join, x36.Public, x36.Name, x36.Tags, x36.Until, x36.Uses, x36.Ready⟩ : T_api_Step).Server, (⟨x36.At, x36.Server, x36.No, x36.Kind, y57.1, x36.Node, x36.Join, x36.Public, x36.Name, x36.Tags, x36.Until, x36.Uses, x36.Ready⟩ : T_api_Step).No, (⟨x36.At, x36.Server, x36.No, x36.Kind, y57.1, x36.Node, x36.Join, x36.Public, x36.Name, x36.Tags, x36.Until, x36.Uses, x36.Ready⟩ : T_api_Step).Kind, (⟨x36.At, x36.Server, x36.No, x36.Kind, y57.1, x36.Node, x36.Join, x36.Public, x36.Name, x36.Tags, x36.Until, x36.Uses, x36.Ready⟩ : T_api_Step).By, y59.1, (⟨x36.At, x36.Server, x36.No, x36.Kind, y57.1, x36.Node, x36.Join, x36.Public, x36.Name, x36.Tags, x36.Until, x36.Uses, x36.Ready⟩ : T_api_Step).Join, (⟨x36.At, x36.Server, x36.No, x36.Kind, y57.1, x36.Node, x36.Join, x36.Public, x36.Name, x36.Tags, x36.Until, x36.Uses, x36.Ready⟩ : T_api_Step).Public, (⟨x36.At, x36.Server, x36.No, x36.Kind, y57.1, x36.Node, x36.Join, x36.Public, x36.Name, x36.Tags, x36.Until, x36.Uses, x36.Ready⟩ : T_api_Step).Name, (⟨x36.At, x36.Server, x36.No, x36.Kind, y57.1, x36.Node, x36.Join, x36.Public, x36.Name, x36.Tags, x36.Until, x36.Uses, x36.Ready⟩ : T_api_Step).Tags, (⟨x36.At, x36.Server, x36.No, x36.Kind, y57.1, x36.Node, x36.Join, x36.Public, x36.Name, x36.Tags, x36.Until, x36.Uses, x36.Ready⟩ : T_api_Step).Until, (⟨x36.At, x36.Server, x36.No, x36.Kind, y57.1, x36.Node, x36.Join, x36.Public, x36.Name, x36.Tags, x36.Until, x36.Uses, x36.Ready⟩ : T_api_Step).Uses, (⟨x36.At, x36.Server, x36.No, x36.Kind, y57.1, x36.Node, x36.Join, x36.Public, x36.Name, x36.Tags, x36.Until, x36.Uses, x36.Ready⟩ : T_api_Step).Ready⟩ : T_api_Step)).length) rfl List.length_set.symm ?_
                  refine go_ops hΓ 2 rfl ?_
                  obtain rfl := Option.some.inj h60
                  exact ⟨⟨rfl, trivial⟩, [], rfl, .inl rfl⟩
                · have h62 := cF h55 hb
                  refine go hΓ 6 rfl ?_
                  refine j_cond rfl (fun hb => ?_) (fun hb => ?_)
                  · have h63 := cT h62 hb
                    obtain ⟨y64, hy64, h65⟩ := bi_ok h63
                    refine go hΓ 4 rfl ?_
                    refine eo_callP (callable Tryz.func100 rfl rfl) (c_strings_Repeat hy64) rfl (Nat.le_of_ble_eq_true rfl) rfl rfl rfl rfl rfl ?_
                    refine eo_litT hΓ (enc := eS) [[], [120, 121, 122], [48, 65], y64] rfl rfl rfl rfl rfl rfl rfl rfl rfl rfl rfl rfl (Nat.le_of_ble_eq_true rfl) ?_
                    obtain ⟨y66, hy66, h67⟩ := bi_ok h65
                    refine eo_callF [0] (S y66.1) [.box 25 [.d (Sl (eN .i64) y66.2.L), I y66.2.v_at], .row 37 13 ([] : List T_api_Step).length (([] : List T_api_Step).flatMap e_api_Step), .row 37 13 y21.length (y21.flatMap e_api_Step), mOb kS false (eN .i64) q6.2.2.1] (callable Tryz.func22 rfl rfl) (c_lanemake_Stream_Some hy66) rfl (Nat.le_of_ble_eq_true rfl) rfl rfl rfl rfl rfl rfl rfl rfl rfl rfl ?_
                    refine go_ops hΓ 1 rfl ?_
                    refine eo_litT hΓ (enc := (eN .i64)) [0, -1, 1000000000] rfl rfl rfl rfl rfl rfl rfl rfl rfl rfl rfl rfl (Nat.le_of_ble_eq_true rfl) ?_
                    obtain ⟨y68, hy68, h69⟩ := bi_ok h67
                    refine eo_callF [0] (I y68.1) [.box 25 [.d (Sl (eN .i64) y68.2.L), I y68.2.v_at], .row 37 13 ([] : List T_api_Step).length (([] : List T_api_Step).flatMap e_api_Step), .row 37 13 y21.length (y21.flatMap e_api_Step), mOb kS false (eN .i64) q6.2.2.1] (callable Tryz.func13 rfl rfl) (c_lanemake_Stream_Pick hy68) rfl (Nat.le_of_ble_eq_true rfl) rfl rfl rfl rfl rfl rfl rfl rfl rfl rfl ?_
                    refine go_ops hΓ 2 rfl ?_
                    refine eo_storeRowZ hΓ (enc := e_api_Step) (z' := (⟨x36.At, x36.Server, x36.No, x36.Kind, x36.By, x36.Node, x36.Join, y66.1, x36.Name, x36.Tags, x36.Until, x36.Uses, x36.Ready⟩ : T_api_Step)) y34.1.toNat 7 hj38 rfl rfl rfl rfl (fun _ => rfl) rfl rfl rfl rfl rfl rfl (Nat.le_of_ble_eq_true rfl) ?_
                    refine eo_hp [.box 25 [.d (Sl (eN .i64) y68.2.L), I y68.2.v_at], .row 37 13 ([] : List T_api_Step).length (([] : List T_api_Step).flatMap e_api_Step), .row 37 13 (y21.set y34.1.toNat (⟨x36.At, x36.Server, x36.No, x36.Kind, x36.By, x36.Node, x36.Join, y66.1, x36.Name, x36.Tags, x36.Until, x36.Uses, x36.Ready⟩ : T_api_Step)).length ((y21.set y34.1.toNat (⟨x36.At, x36.Server, x36.No, x36.Kind, x36.By, x36.Node, x36.Join, y66.1, x36.Name, x36.Tags, x36.Until, x36.Uses, x36.Ready⟩ : T_api_Step)).flatMap e_api_Step), mOb kS false (eN .i64) q6.2.2.1] rfl ?_
                    have hj70 := set_at (y := (⟨x36.At, x36.Server, x36.No, x36.Kind, x36.By, x36.Node, x36.Join, y66.1, x36.Name, x36.Tags, x36.Until, x36.Uses, x36.Ready⟩ : T_api_Step)) hj38
                    refine eo_relen 5 (n' := (y21.set y34.1.toNat (⟨x36.At, x36.Server, x36.No, x36.Kind, x36.By, x36.Node, x36.Join, y66.1, x36.Name, x36.Tags, x36.Until, x36.Uses, x36.Ready⟩ : T_api_Step)).length) rfl List.length_set.symm ?_
                    refine go_ops hΓ 2 rfl ?_
                    refine eo_storeRowZ hΓ (enc := e_api_Step) (z' := (⟨(⟨x36.At, x36.Server, x36.No, x36.Kind, x36.By, x36.Node, x36.Join, y66.1, x36.Name, x36.Tags, x36.Until, x36.Uses, x36.Ready⟩ : T_api_Step).At, (⟨x36.At, x36.Server, x36.No, x36.Kind, x36.By, x36.Node, x36.Join, y66.1, x36.Name, x36.Tags, x36.Until, x36.Uses, x36.Ready⟩ : T_api_Step).Server, (⟨x36.At, x36.Server, x36.No, x36.Kind, x36.By, x36.Node, x36.Join, y66.1, x36.Name, x36.Tags, x36.Until, x36.Uses, x36.Ready⟩ : T_api_Step).No, (⟨x36.At, x36.Server, x36.No, x36.Kind, x36.By, x36.Node, x36.Join, y66.1, x36.Name, x36.Tags, x36.Until, x36.Uses, x36.Ready⟩ : T_api_Step).Kind, (⟨x36.At, x36.Server, x36.No, x36.Kind, x36.By, x36.Node, x36.Join, y66.1, x36.Name, x36.Tags, x36.Until, x36.Uses, x36.Ready⟩ : T_api_Step).By, (⟨x36.At, x36.Server, x36.No, x36.Kind, x36.By, x36.Node, x36.Join, y66.1, x36.Name, x36.Tags, x36.Until, x36.Uses, x36.Ready⟩ : T_api_Step).Node, (⟨x36.At, x36.Server, x36.No, x36.Kind, x36.By, x36.Node, x36.Join, y66.1, x36.Name, x36.Tags, x36.Until, x36.Uses, x36.Ready⟩ : T_api_Step).Join, (⟨x36.At, x36.Server, x36.No, x36.Kind, x36.By, x36.Node, x36.Join, y66.1, x36.Name, x36.Tags, x36.Until, x36.Uses, x36.Ready⟩ : T_api_Step).Public, (⟨x36.At, x36.Server, x36.No, x36.Kind, x36.By, x36.Node, x36.Join, y66.1, x36.Name, x36.Tags, x36.Until, x36.Uses, x36.Ready⟩ : T_api_Step).Name, (⟨x36.At, x36.Server, x36.No, x36.Kind, x36.By, x36.Node, x36.Join, y66.1, x36.Name, x36.Tags, x36.Until, x36.Uses, x36.Ready⟩ : T_api_Step).Tags, y68.1, (⟨x36.At, x36.Server, x36.No, x36.Kind, x36.By, x36.Node, x36.Join, y66.1, x36.Name, x36.Tags, x36.Until, x36.Uses, x36.Ready⟩ : T_api_Step).Uses, (⟨x36.At, x36.Server, x36.No, x36.Kind, x36.By, x36.Node, x36.Join, y66.1, x36.Name, x36.Tags, x36.Until, x36.Uses, x36.Ready⟩ : T_api_Step).Ready⟩ : T_api_Step)) y34.1.toNat 10 hj70 rfl rfl rfl rfl (fun _ => rfl) rfl rfl rfl rfl rfl rfl (Nat.le_of_ble_eq_true rfl) ?_
                    refine eo_hp [.box 25 [.d (Sl (eN .i64) y68.2.L), I y68.2.v_at], .row 37 13 ([] : List T_api_Step).length (([] : List T_api_Step).flatMap e_api_Step), .row 37 13 ((y21.set y34.1.toNat (⟨x36.At, x36.Server, x36.No, x36.Kind, x36.By, x36.Node, x36.Join, y66.1, x36.Name, x36.Tags, x36.Until, x36.Uses, x36.Ready⟩ : T_api_Step)).set y34.1.toNat (⟨(⟨x36.At, x36.Server, x36.No, x36.Kind, x36.By, x36.Node, x36.Join, y66.1, x36.Name, x36.Tags, x36.Until, x36.Uses, x36.Ready⟩ : T_api_Step).At, (⟨x36.At, x36.Server, x36.No, x36.Kind, x36.By, x36.Node, x36.Join, y66.1, x36.Name, x36.Tags, x36.Until, x36.Uses, x36.Ready⟩ : T_api_Step).Server, (⟨x36.At, x36.Server, x36.No, x36.Kind, x36.By, x36.Node, x36.Join, y66.1, x36.Name, x36.Tags, x36.Until, x36.Uses, x36.Ready⟩ : T_api_Step).No, (⟨x36.At, x36.Server, x36.No, x36.Kind, x36.By, x36.Node, x36.Join, y66.1, x36.Name, x36.Tags, x36.Until, x36.Uses, x36.Ready⟩ : T_api_Step).Kind, (⟨x36.At, x36.Server, x36.No, x36.Kind, x36.By, x36.Node, x36.Join, y66.1, x36.Name, x36.Tags, x36.Until, x36.Uses, x36.Ready⟩ : T_api_Step).By, (⟨x36.At, x36.Server, x36.No, x36.Kind, x36.By, x36.Node, x36.Join, y66.1, x36.Name, x36.Tags, x36.Until, x36.Uses, x36.Ready⟩ : T_api_Step).Node, (⟨x36.At, x36.Server, x36.No, x36.Kind, x36.By, x36.Node, x36.Join, y66.1, x36.Name, x36.Tags, x36.Until, x36.Uses, x36.Ready⟩ : T_api_Step).Join, (⟨x36.At, x36.Server, x36.No, x36.Kind, x36.By, x36.Node, x36.Join, y66.1, x36.Name, x36.Tags, x36.Until, x36.Uses, x36.Ready⟩ : T_api_Step).Public, (⟨x36.At, x36.Server, x36.No, x36.Kind, x36.By, x36.Node, x36.Join, y66.1, x36.Name, x36.Tags, x36.Until, x36.Uses, x36.Ready⟩ : T_api_Step).Name, (⟨x36.At, x36.Server, x36.No, x36.Kind, x36.By, x36.Node, x36.Join, y66.1, x36.Name, x36.Tags, x36.Until, x36.Uses, x36.Ready⟩ : T_api_Step).Tags, y68.1, (⟨x36.At, x36.Server, x36.No, x36.Kind, x36.By, x36.Node, x36.Join, y66.1, x36.Name, x36.Tags, x36.Until, x36.Uses, x36.Ready⟩ : T_api_Step).Uses, (⟨x36.At, x36.Server, x36.No, x36.Kind, x36.By, x36.Node, x36.Join, y66.1, x36.Name, x36.Tags, x36.Until, x36.Uses, x36.Ready⟩ : T_api_Step).Ready⟩ : T_api_Step)).length (((y21.set y34.1.toNat (⟨x36.At, x36.Server, x36.No, x36.Kind, x36.By, x36.Node, x36.Join, y66.1, x36.Name, x36.Tags, x36.Until, x36.Uses, x36.Ready⟩ : T_api_Step)).set y34.1.toNat (⟨(⟨x36.At, x36.Server, x36.No, x36.Kind, x36.By, x36.Node, x36.Join, y66.1, x36.Name, x36.Tags, x36.Until, x36.Uses, x36.Ready⟩ : T_api_Step).At, (⟨x36.At, x36.Server, x36.No, x36.Kind, x36.By, x36.Node, x36.Join, y66.1, x36.Name, x36.Tags, x36.Until, x36.Uses, x36.Ready⟩ : T_api_Step).Server, (⟨x36.At, x36.Server, x36.No, x36.Kind, x36.By, x36.Node, x36.Join, y66.1, x36.Name, x36.Tags, x36.Until, x36.Uses, x36.Ready⟩ : T_api_Step).No, (⟨x36.At, x36.Server, x36.No, x36.Kind, x36.By, x36.Node, x36.Join, y66.1, x36.Name, x36.Tags, x36.Until, x36.Uses, x36.Ready⟩ : T_api_Step).Kind, (⟨x36.At, x36.Server, x36.No, x36.Kind, x36.By, x36.Node, x36.Join, y66.1, x36.Name, x36.Tags, x36.Until, x36.Uses, x36.Ready⟩ : T_api_Step).By, (⟨x36.At, x36.Server, x36.No, x36.Kind, x36.By, x36.Node, x36.Join, y66.1, x36.Name, x36.Tags, x36.Until, x36.Uses, x36.Ready⟩ : T_api_Step).Node, (⟨x36.At, x36.Server, x36.No, x36.Kind, x36.By, x36.Node, x36.Join, y66.1, x36.Name, x36.Tags, x36.Until, x36.Uses, x36.Ready⟩ : T_api_Step).Join, (⟨x36.At, x36.Server, x36.No, x36.Kind, x36.By, x36.Node, x36.Join, y66.1, x36.Name, x36.Tags, x36.Until, x36.Uses, x36.Ready⟩ : T_api_Step).Public, (⟨x36.At, x36.Server, x36.No, x36.Kind, x36.By, x36.Node, x36.Join, y66.1, x36.Name, x36.Tags, x36.Until, x36.Uses, x36.Ready⟩ : T_api_Step).Name, (⟨x36.At, x36.Server, x36.No, x36.Kind, x36.By, x36.Node, x36.Join, y66.1, x36.Name, x36.Tags, x36.Until, x36.Uses, x36.Ready⟩ : T_api_Step).Tags, y68.1, (⟨x36.At, x36.Server, x36.No, x36.Kind, x36.By, x36.Node, x36.Join, y66.1, x36.Name, x36.Tags, x36.Until, x36.Uses, x36.Ready⟩ : T_api_Step).Uses, (⟨x36.At, x36.Server, x36.No, x36.Kind, x36.By, x36.Node, x36.Join, y66.1, x36.Name, x36.Tags, x36.Until, x36.Uses, x36.Ready⟩ : T_api_Step).Ready⟩ : T_api_Step)).flatMap e_api_Step), mOb kS false (eN .i64) q6.2.2.1] rfl ?_
                    refine eo_relen 5 (n' := ((y21.set y34.1.toNat (⟨x36.At, x36.Server, x36.No, x36.Kind, x36.By, x36.Node, x36.Join, y66.1, x36.Name, x36.Tags, x36.Until, x36.Uses, x36.Ready⟩ : T_api_Step)).set y34.1.toNat (⟨(⟨x36.At, x36.Server, x36.No, x36.Kind, x36.By, x36.Node, x36.Join, y66.1, x36.Name, x36.Tags, x36.Until, x36.Uses, x36.Ready⟩ : T_api_Step).At, (⟨x36.At, x36.Server, x36.No, x36.Kind, x36.By, x36.Node, x36.Join, y66.1, x36.Name, x36.Tags, x36.Until, x36.Uses, x36.Ready⟩ : T_api_Step).Server, (⟨x36.At, x36.Server, x36.No, x36.Kind, x36.By, x36.Node, x36.Join, y66.1, x36.Name, x36.Tags, x36.Until, x36.Uses, x36.Ready⟩ : T_api_Step).No, (⟨x36.At, x36.Server, x36.No, x36.Kind, x36.By, x36.Node, x36.Join, y66.1, x36.Name, x36.Tags, x36.Until, x36.Uses, x36.Ready⟩ : T_api_Step).Kind, (⟨x36.At, x36.Server, x36.No, x36.Kind, x36.By, x36.Node, x36.Join, y66.1, x36.Name, x36.Tags, x36.Until, x36.Uses, x36.Ready⟩ : T_api_Step).By, (⟨x36.At, x36.Server, x36.No, x36.Kind, x36.By, x36.Node, x36.Join, y66.1, x36.Name, x36.Tags, x36.Until, x36.Uses, x36.Ready⟩ : T_api_Step).Node, (⟨x36.At, x36.Server, x36.No, x36.Kind, x36.By, x36.Node, x36.Join, y66.1, x36.Name, x36.Tags, x36.Until, x36.Uses, x36.Ready⟩ : T_api_Step).Join, (⟨x36.At, x36.Server, x36.No, x36.Kind, x36.By, x36.Node, x36.Join, y66.1, x36.Name, x36.Tags, x36.Until, x36.Uses, x36.Ready⟩ : T_api_Step).Public, (⟨x36.At, x36.Server, x36.No, x36.Kind, x36.By, x36.Node, x36.Join, y66.1, x36.Name, x36.Tags, x36.Until, x36.Uses, x36.Ready⟩ : T_api_Step).Name, (⟨x36.At, x36.Server, x36.No, x36.Kind, x36.By, x36.Node, x36.Join, y66.1, x36.Name, x36.Tags, x36.Until, x36.Uses, x36.Ready⟩ : T_api_Step).Tags, y68.1, (⟨x36.At, x36.Server, x36.No, x36.Kind, x36.By, x36.Node, x36.Join, y66.1, x36.Name, x36.Tags, x36.Until, x36.Uses, x36.Ready⟩ : T_api_Step).Uses, (⟨x36.At, x36.Server, x36.No, x36.Kind, x36.By, x36.Node, x36.Join, y66.1, x36.Name, x36.Tags, x36.Until, x36.Uses, x36.Ready⟩ : T_api_Step).Ready⟩ : T_api_Step)).length) rfl List.length_set.symm ?_
                    refine go_ops hΓ 2 rfl ?_
                    obtain rfl := Option.some.inj h69
                    exact ⟨⟨rfl, trivial⟩, [], rfl, .inl rfl⟩
                  · have h71 := cF h62 hb
                    refine go hΓ 2 rfl ?_
                    refine eo_litT hΓ (enc := eS) [[119, 101, 98], [100, 98]] rfl rfl rfl rfl rfl rfl rfl rfl rfl rfl rfl rfl (Nat.le_of_ble_eq_true rfl) ?_
                    refine eo_litT hΓ (enc := eS) [[]] rfl rfl rfl rfl rfl rfl rfl rfl rfl rfl rfl rfl (Nat.le_of_ble_eq_true rfl) ?_
                    refine eo_litT hΓ (enc := eS) [[97], [98]] rfl rfl rfl rfl rfl rfl rfl rfl rfl rfl rfl rfl (Nat.le_of_ble_eq_true rfl) ?_
                    refine eo_litT hΓ (enc := (eL eS)) [[[119, 101, 98], [100, 98]], [[]], [[97], [98]]] rfl rfl rfl rfl rfl rfl rfl rfl rfl rfl rfl rfl (Nat.le_of_ble_eq_true rfl) ?_
                    obtain ⟨y72, hy72, h73⟩ := bi_ok h71
                    refine go_ops hΓ 1 rfl ?_
                    refine eo_callF [0] (I y72.1) [.box 25 [.d (Sl (eN .i64) y72.2.L), I y72.2.v_at], .row 37 13 ([] : List T_api_Step).length (([] : List T_api_Step).flatMap e_api_Step), .row 37 13 y21.length (y21.flatMap e_api_Step), mOb kS false (eN .i64) q6.2.2.1] (callable Tryz.func26 rfl rfl) (c_lanemake_Stream_Next hy72) rfl (Nat.le_of_ble_eq_true rfl) rfl rfl rfl rfl rfl rfl rfl rfl rfl rfl ?_
                    obtain ⟨x74, hx74, h75⟩ := bi_ok h73
                    refine eo_o rfl (op_elemZ hΓ (enc := (eL eS)) hx74 rfl rfl rfl rfl rfl (fun _ => rfl)) ?_
                    refine go_ops hΓ 3 rfl ?_
                    refine eo_storeRowZ hΓ (enc := e_api_Step) (z' := (⟨x36.At, x36.Server, x36.No, x36.Kind, x36.By, x36.Node, x36.Join, x36.Public, x36.Name, x74, x36.Until, x36.Uses, x36.Ready⟩ : T_api_Step)) y34.1.toNat 9 hj38 rfl rfl rfl rfl (fun _ => rfl) rfl rfl rfl rfl rfl rfl (Nat.le_of_ble_eq_true rfl) ?_
                    refine eo_hp [.box 25 [.d (Sl (eN .i64) y72.2.L), I y72.2.v_at], .row 37 13 ([] : List T_api_Step).length (([] : List T_api_Step).flatMap e_api_Step), .row 37 13 (y21.set y34.1.toNat (⟨x36.At, x36.Server, x36.No, x36.Kind, x36.By, x36.Node, x36.Join, x36.Public, x36.Name, x74, x36.Until, x36.Uses, x36.Ready⟩ : T_api_Step)).length ((y21.set y34.1.toNat (⟨x36.At, x36.Server, x36.No, x36.Kind, x36.By, x36.Node, x36.Join, x36.Public, x36.Name, x74, x36.Until, x36.Uses, x36.Ready⟩ : T_api_Step)).flatMap e_api_Step), mOb kS false (eN .i64) q6.2.2.1] rfl ?_
                    refine eo_relen 5 (n' := (y21.set y34.1.toNat (⟨x36.At, x36.Server, x36.No, x36.Kind, x36.By, x36.Node, x36.Join, x36.Public, x36.Name, x74, x36.Until, x36.Uses, x36.Ready⟩ : T_api_Step)).length) rfl List.length_set.symm ?_
                    refine go_ops hΓ 2 rfl ?_
                    obtain rfl := Option.some.inj h75
                    exact ⟨⟨rfl, trivial⟩, [], rfl, .inl rfl⟩
        · have h76 := cF hq31 hb
          refine go hΓ 1 rfl ?_
          obtain rfl := Option.some.inj h76
          exact ⟨⟨rfl, trivial⟩, [], rfl, .inl rfl⟩
      · refine go hΓ 8 rfl ?_
        refine cv_kill 1 [.box 25 [.d (Sl (eN .i64) q31.1.L), I q31.1.v_at], .dead, .row 37 13 q31.2.length (q31.2.flatMap e_api_Step), mOb kS false (eN .i64) q6.2.2.1] rfl (Nat.le_of_ble_eq_true rfl) ?_
        refine cv_move 2 1 [.box 25 [.d (Sl (eN .i64) q31.1.L), I q31.1.v_at], .row 37 13 q31.2.length (q31.2.flatMap e_api_Step), .dead, mOb kS false (eN .i64) q6.2.2.1] rfl rfl rfl rfl rfl rfl ?_
        refine cv_here ?_
        obtain rfl := Option.some.inj h32
        exact fin_objs hΓ [_, _] (.inr rfl) rfl rfl rfl rfl (.inr ⟨HB.mk rfl, rfl⟩)
theorem c_laneref2_in {n : Int} {low : Int} {high : Int} {r : Bool} (h : m_laneref2_in n low high = some r) : Pure Tryz.prog 211 [I n, I low, I high] (B r) := by
  refine Pure.enter (Fr.of 0 _) Tryz.func211 rfl (Fr.of_ok _) rfl rfl ?_
  refine go_in ?_
  unfold m_laneref2_in at h
  refine go hΓ 11 rfl ?_
  refine o_cut 4 [(6, B false), (14, B ((decide ((low : Int) ≤ n)) && (decide ((n : Int) ≤ high))))] [] ?_ ?_
  · refine eo_gsplit rfl rfl (fun hb => ?_) (fun hb => ?_)
    · refine go_ops hΓ 5 rfl ?_
      exact ⟨⟨rfl, get_b rfl (and_t hb), trivial⟩, [], rfl, .inl rfl⟩
    · refine go_ops hΓ 5 rfl ?_
      exact ⟨⟨rfl, get_b rfl (and_f hb), trivial⟩, [], rfl, .inl rfl⟩
  · refine go_ops hΓ 4 rfl ?_
    obtain rfl := Option.some.inj h
    exact fin_pure hΓ (.inr rfl) rfl rfl
theorem c_laneref2_only {s : Str} {v_some : Str} {r : Bool} (h : m_laneref2_only s v_some = some r) : Pure Tryz.prog 212 [S s, S v_some] (B r) := by
  refine Pure.enter (Fr.of 0 _) Tryz.func212 rfl (Fr.of_ok _) rfl rfl ?_
  refine go_in ?_
  unfold m_laneref2_only at h
  obtain ⟨y1, hy1, h2⟩ := bi_ok h
  refine go hΓ 9 rfl ?_
  refine eo_callP (callable Tryz.func153 rfl rfl) (c_strings_Trim hy1) rfl (Nat.le_of_ble_eq_true rfl) rfl rfl rfl rfl rfl ?_
  refine go_ops hΓ 5 rfl ?_
  obtain rfl := Option.some.inj h2
  exact fin_pure hΓ (.inr rfl) rfl rfl
theorem c_laneref2_Key {s : Str} {r : Bool} (h : m_laneref2_Key s = some r) : Pure Tryz.prog 104 [S s] (B r) := by
  refine Pure.enter (Fr.of 0 _) Tryz.func104 rfl (Fr.of_ok _) rfl rfl ?_
  refine go_in ?_
  unfold m_laneref2_Key at h
  obtain ⟨y1, hy1, h2⟩ := bi_ok h
  refine go hΓ 9 rfl ?_
  refine eo_callP (callable Tryz.func211 rfl rfl) (c_laneref2_in hy1) rfl (Nat.le_of_ble_eq_true rfl) rfl rfl rfl rfl rfl ?_
  refine go_ops hΓ 1 rfl ?_
  obtain ⟨q3, hq3, h4⟩ := bi_ok h2
  refine o_cut 4 [(0, S s), (2, B false), (10, B q3)] [] ?_ ?_
  · refine eo_gsplit rfl rfl (fun hb => ?_) (fun hb => ?_)
    · have h5 := cT hq3 hb
      obtain ⟨z6, hz6, h7⟩ := bi_ok h5
      refine go_ops hΓ 1 rfl ?_
      refine eo_guard rfl ?_
      refine eo_o rfl (op_subZ hΓ hz6 rfl rfl rfl rfl rfl) ?_
      obtain ⟨y8, hy8, h9⟩ := bi_ok h7
      refine eo_guard rfl ?_
      refine eo_callP (callable Tryz.func212 rfl rfl) (c_laneref2_only hy8) rfl (Nat.le_of_ble_eq_true rfl) rfl rfl rfl rfl rfl ?_
      refine go_ops hΓ 2 rfl ?_
      obtain rfl := Option.some.inj h9
      exact ⟨⟨rfl, rfl, rfl, trivial⟩, [], rfl, .inl rfl⟩
    · have h10 := cF hq3 hb
      refine go_ops hΓ 5 rfl ?_
      obtain rfl := Option.some.inj h10
      exact ⟨⟨rfl, rfl, rfl, trivial⟩, [], rfl, .inl rfl⟩
  · refine go_ops hΓ 1 rfl ?_
    obtain ⟨q11, hq11, h12⟩ := bi_ok h4
    refine o_cut 3 [(2, B false), (14, B q11)] [] ?_ ?_
    · refine eo_gsplit rfl rfl (fun hb => ?_) (fun hb => ?_)
      · have h13 := cT hq11 hb
        obtain ⟨y14, hy14, h15⟩ := bi_ok h13
        refine go_ops hΓ 1 rfl ?_
        refine eo_guard rfl ?_
        refine eo_callP (callable Tryz.func212 rfl rfl) (c_laneref2_only hy14) rfl (Nat.le_of_ble_eq_true rfl) rfl rfl rfl rfl rfl ?_
        refine go_ops hΓ 2 rfl ?_
        obtain rfl := Option.some.inj h15
        exact ⟨⟨rfl, rfl, trivial⟩, [], rfl, .inl rfl⟩
      · have h16 := cF hq11 hb
        refine go_ops hΓ 4 rfl ?_
        obtain rfl := Option.some.inj h16
        exact ⟨⟨rfl, rfl, trivial⟩, [], rfl, .inl rfl⟩
    · refine go_ops hΓ 4 rfl ?_
      obtain rfl := Option.some.inj h12
      exact fin_pure hΓ (.inr rfl) rfl rfl
set_option maxHeartbeats 8000000 in
theorem c_laneref1_rising {l : List Str} {r : Int} (h : m_laneref1_rising l = some r) : Pure Tryz.prog 103 [.d (Sl eS l)] (I r) := by
  refine Pure.enter (Fr.of 0 _) Tryz.func103 rfl (Fr.of_ok _) rfl rfl ?_
  refine go_in ?_
  unfold m_laneref1_rising at h
  refine go hΓ 13 rfl ?_
  obtain ⟨q4, hq4, h5⟩ := bi_ok h
  refine j_bound 0 rfl fun hb7 => ?_
  refine j_cutEZ (R := fun a6 => q4 = .go a6) (fun a6 => []) (fun a6 => []) ?_ ?_
  · refine go hΓ 1 rfl ?_
    refine j_range l hq4 (fun i1 s2 => [(0, .d (Sl eS l)), (5, .d (Sl eS l)), (6, I (l.length : Int)), (7, I (i1 : Int))]) (fun s2 => []) ⟨⟨rfl, rfl, rfl, rfl, trivial⟩, [], rfl, .inl rfl⟩ (fun i1 x3 s2 y11 hx8 hlt hy9 hout10 => ?_) (fun s2 hgo => ?_)
    · refine go hΓ 6 rfl ?_
      refine j_condT rfl (decide_eq_true (Int.ofNat_lt.2 hlt)) ?_
      refine go hΓ 7 rfl ?_
      refine eo_o rfl (op_elemZ hΓ (enc := eS) (getZ_nat hx8) rfl rfl rfl rfl rfl (fun _ => rfl)) ?_
      obtain ⟨y12, hy12, h13⟩ := bi_ok hy9
      refine go_ops hΓ 9 rfl ?_
      refine eo_callP (callable Tryz.func104 rfl rfl) (c_laneref2_Key hy12) rfl (Nat.le_of_ble_eq_true rfl) rfl rfl rfl rfl rfl ?_
      refine go_ops hΓ 3 rfl ?_
      refine j_cond rfl (fun hb => ?_) (fun hb => ?_)
      · have h14 := cT h13 hb
        refine go hΓ 9 rfl ?_
        obtain ⟨v15, hv15, h16⟩ := bi_ok h14
        obtain rfl := Option.some.inj h16
        obtain rfl := hout10 _ rfl
        obtain rfl := Option.some.inj h5
        refine go hΓ 4 rfl ?_
        obtain rfl := Option.some.inj hv15
        exact fin_pure hΓ (.inr rfl) rfl rfl
      · have h17 := cF h13 hb
        refine go hΓ 7 rfl ?_
        obtain ⟨q18, hq18, h19⟩ := bi_ok h17
        refine o_cut 8 [(0, .d (Sl eS l)), (5, .d (Sl eS l)), (6, I (l.length : Int)), (7, I (i1 : Int)), (25, B q18)] [] ?_ ?_
        · refine eo_gsplit rfl rfl (fun hb => ?_) (fun hb => ?_)
          · have h20 := cT hq18 hb
            obtain ⟨x21, hx21, h22⟩ := bi_ok h20
            refine go_ops hΓ 4 rfl ?_
            refine eo_guard rfl ?_
            refine eo_o rfl (op_elemZ hΓ (enc := eS) hx21 rfl rfl rfl rfl rfl (fun _ => rfl)) ?_
            refine go_ops hΓ 4 rfl ?_
            obtain rfl := Option.some.inj h22
            exact ⟨⟨rfl, rfl, rfl, rfl, rfl, trivial⟩, [], rfl, .inl rfl⟩
          · have h23 := cF hq18 hb
            refine go_ops hΓ 9 rfl ?_
            obtain rfl := Option.some.inj h23
            exact ⟨⟨rfl, rfl, rfl, rfl, rfl, trivial⟩, [], rfl, .inl rfl⟩
        · refine go_ops hΓ 2 rfl ?_
          refine j_cond rfl (fun hb => ?_) (fun hb => ?_)
          · have h24 := cT h19 hb
            refine go hΓ 8 rfl ?_
            obtain ⟨v25, hv25, h26⟩ := bi_ok h24
            obtain rfl := Option.some.inj h26
            obtain rfl := hout10 _ rfl
            obtain rfl := Option.some.inj h5
            refine go hΓ 4 rfl ?_
            obtain rfl := Option.some.inj hv25
            exact fin_pure hΓ (.inr rfl) rfl rfl
          · have h27 := cF h19 hb
            refine go hΓ 7 rfl ?_
            obtain rfl := Option.some.inj h27
            exact ⟨_, rfl, ⟨⟨rfl, rfl, rfl, get_eq rfl (w64_succ (Nat.lt_of_lt_of_le hlt hb7)), trivial⟩, [], rfl, .inl rfl⟩⟩
    · subst hgo
      refine go hΓ 6 rfl ?_
      refine j_condF rfl (decide_eq_false (Int.lt_irrefl _)) ?_
      refine go hΓ 4 rfl ?_
      exact ⟨_, rfl, ⟨trivial, [], rfl, .inl rfl⟩⟩
  · intro a6 ha
    subst ha
    replace h5 := goI_l h5
    refine go hΓ 7 rfl ?_
    obtain rfl := Option.some.inj h5
    exact fin_pure hΓ (.inr rfl) rfl rfl
theorem c_slices_Index_string_string {s : List Str} {v : Str} {r : Int} (h : m_slices_Index_string_string s v = some r) : Pure Tryz.prog 154 [.d (Sl eS s), S v] (I r) := by
  refine Pure.enter (Fr.of 0 _) Tryz.func154 rfl (Fr.of_ok _) rfl rfl ?_
  refine go_in ?_
  unfold m_slices_Index_string_string at h
  refine go hΓ 13 rfl ?_
  obtain ⟨q4, hq4, h5⟩ := bi_ok h
  refine j_bound 0 rfl fun hb7 => ?_
  refine j_cutEZ (R := fun a6 => q4 = .go a6) (fun a6 => []) (fun a6 => []) ?_ ?_
  · refine go hΓ 1 rfl ?_
    refine j_range s hq4 (fun i1 s2 => [(0, .d (Sl eS s)), (1, S v), (7, I (s.length : Int)), (8, I (i1 : Int))]) (fun s2 => []) ⟨⟨rfl, rfl, rfl, rfl, trivial⟩, [], rfl, .inl rfl⟩ (fun i1 x3 s2 y11 hx8 hlt hy9 hout10 => ?_) (fun s2 hgo => ?_)
    · refine go hΓ 6 rfl ?_
      refine j_condT rfl (decide_eq_true (Int.ofNat_lt.2 hlt)) ?_
      refine go hΓ 15 rfl ?_
      refine eo_o rfl (op_elemZ hΓ (enc := eS) (getZ_nat hx8) rfl rfl rfl rfl rfl (fun _ => rfl)) ?_
      refine go_ops hΓ 4 rfl ?_
      refine j_cond rfl (fun hb => ?_) (fun hb => ?_)
      · have h12 := cT hy9 hb
        refine go hΓ 9 rfl ?_
        obtain ⟨v13, hv13, h14⟩ := bi_ok h12
        obtain rfl := Option.some.inj h14
        obtain rfl := hout10 _ rfl
        obtain rfl := Option.some.inj h5
        refine go hΓ 4 rfl ?_
        obtain rfl := Option.some.inj hv13
        exact fin_pure hΓ (.inr rfl) rfl rfl
      · have h15 := cF hy9 hb
        refine go hΓ 7 rfl ?_
        obtain rfl := Option.some.inj h15
        exact ⟨_, rfl, ⟨⟨rfl, rfl, rfl, get_eq rfl (w64_succ (Nat.lt_of_lt_of_le hlt hb7)), trivial⟩, [], rfl, .inl rfl⟩⟩
    · subst hgo
      refine go hΓ 6 rfl ?_
      refine j_condF rfl (decide_eq_false (Int.lt_irrefl _)) ?_
      refine go hΓ 4 rfl ?_
      exact ⟨_, rfl, ⟨trivial, [], rfl, .inl rfl⟩⟩
  · intro a6 ha
    subst ha
    replace h5 := goI_l h5
    refine go hΓ 7 rfl ?_
    obtain rfl := Option.some.inj h5
    exact fin_pure hΓ (.inr rfl) rfl rfl
theorem c_slices_Contains_string_string {s : List Str} {v : Str} {r : Bool} (h : m_slices_Contains_string_string s v = some r) : Pure Tryz.prog 61 [.d (Sl eS s), S v] (B r) := by
  refine Pure.enter (Fr.of 0 _) Tryz.func61 rfl (Fr.of_ok _) rfl rfl ?_
  refine go_in ?_
  unfold m_slices_Contains_string_string at h
  obtain ⟨y1, hy1, h2⟩ := bi_ok h
  refine go hΓ 9 rfl ?_
  refine eo_callP (callable Tryz.func154 rfl rfl) (c_slices_Index_string_string hy1) rfl (Nat.le_of_ble_eq_true rfl) rfl rfl rfl rfl rfl ?_
  refine go_ops hΓ 5 rfl ?_
  obtain rfl := Option.some.inj h2
  exact fin_pure hΓ (.inr rfl) rfl rfl
theorem c_laneref1_in {n : Int} {low : Int} {high : Int} {r : Bool} (h : m_laneref1_in n low high = some r) : Pure Tryz.prog 105 [I n, I low, I high] (B r) := by
  refine Pure.enter (Fr.of 0 _) Tryz.func105 rfl (Fr.of_ok _) rfl rfl ?_
  refine go_in ?_
  unfold m_laneref1_in at h
  refine go hΓ 11 rfl ?_
  refine o_cut 4 [(6, B false), (14, B ((decide ((low : Int) ≤ n)) && (decide ((n : Int) ≤ high))))] [] ?_ ?_
  · refine eo_gsplit rfl rfl (fun hb => ?_) (fun hb => ?_)
    · refine go_ops hΓ 5 rfl ?_
      exact ⟨⟨rfl, get_b rfl (and_t hb), trivial⟩, [], rfl, .inl rfl⟩
    · refine go_ops hΓ 5 rfl ?_
      exact ⟨⟨rfl, get_b rfl (and_f hb), trivial⟩, [], rfl, .inl rfl⟩
  · refine go_ops hΓ 4 rfl ?_
    obtain rfl := Option.some.inj h
    exact fin_pure hΓ (.inr rfl) rfl rfl
set_option maxHeartbeats 8000000 in
theorem c_laneref1_DirectoryFault {d : T_api_Directory} {r : Int} (h : m_laneref1_DirectoryFault d = some r) : Pure Tryz.prog 28 [.agg [.d (Sl eS d.Users), .d (Sl e_api_Owner d.Owners), I d.Life, B d.Approve]] (I r) := by
  refine Pure.enter (Fr.of 0 _) Tryz.func28 rfl (Fr.of_ok _) rfl rfl ?_
  refine go_in ?_
  unfold m_laneref1_DirectoryFault at h
  refine go hΓ 2 rfl ?_
  refine eo_box rfl rfl rfl rfl (Nat.le_of_ble_eq_true rfl) ?_
  refine go_ops hΓ 12 rfl ?_
  refine j_cond rfl (fun hb => ?_) (fun hb => ?_)
  · have h1 := cT h hb
    refine go hΓ 7 rfl ?_
    obtain rfl := Option.some.inj h1
    exact fin_pure hΓ (.inr rfl) rfl rfl
  · have h2 := cF h hb
    obtain ⟨y3, hy3, h4⟩ := bi_ok h2
    refine go hΓ 7 rfl ?_
    refine eo_callP (callable Tryz.func103 rfl rfl) (c_laneref1_rising hy3) rfl (Nat.le_of_ble_eq_true rfl) rfl rfl rfl rfl rfl ?_
    refine go_ops hΓ 9 rfl ?_
    refine j_cond rfl (fun hb => ?_) (fun hb => ?_)
    · have h5 := cT h4 hb
      refine go hΓ 8 rfl ?_
      obtain rfl := Option.some.inj h5
      exact fin_pure hΓ (.inr rfl) rfl rfl
    · have h6 := cF h4 hb
      refine go hΓ 11 rfl ?_
      refine j_cond rfl (fun hb => ?_) (fun hb => ?_)
      · have h7 := cT h6 hb
        refine go hΓ 7 rfl ?_
        obtain rfl := Option.some.inj h7
        exact fin_pure hΓ (.inr rfl) rfl rfl
      · have h8 := cF h6 hb
        refine go hΓ 11 rfl ?_
        obtain ⟨q12, hq12, h13⟩ := bi_ok h8
        refine j_bound 23 rfl fun hb15 => ?_
        refine j_cutEZ (R := fun a14 => q12 = .go a14) (fun a14 => [(1, .ptr 0 0)]) (fun a14 => [.box 29 [.d (Sl eS d.Users), .d (Sl e_api_Owner d.Owners), I d.Life, B d.Approve]]) ?_ ?_
        · refine go hΓ 1 rfl ?_
          refine j_range d.Owners hq12 (fun i9 s10 => [(1, .ptr 0 0), (23, .d (Sl e_api_Owner d.Owners)), (24, I (d.Owners.length : Int)), (25, I (i9 : Int))]) (fun s10 => [.box 29 [.d (Sl eS d.Users), .d (Sl e_api_Owner d.Owners), I d.Life, B d.Approve]]) ⟨⟨rfl, rfl, rfl, rfl, trivial⟩, [], rfl, .inl rfl⟩ (fun i9 x11 s10 y19 hx16 hlt hy17 hout18 => ?_) (fun s10 hgo => ?_)
          · refine go hΓ 6 rfl ?_
            refine j_condT rfl (decide_eq_true (Int.ofNat_lt.2 hlt)) ?_
            refine go hΓ 7 rfl ?_
            refine eo_o rfl (op_elemZ hΓ (enc := e_api_Owner) (getZ_nat hx16) rfl rfl rfl rfl rfl (fun _ => rfl)) ?_
            refine go_ops hΓ 1 rfl ?_
            refine eo_alloc hΓ rfl rfl rfl (Nat.le_of_ble_eq_true rfl) ?_
            refine go_ops hΓ 1 rfl ?_
            refine eo_store hΓ rfl rfl rfl rfl rfl rfl rfl rfl (Nat.le_of_ble_eq_true rfl) ?_
            refine eo_hp [.box 29 [.d (Sl eS d.Users), .d (Sl e_api_Owner d.Owners), I d.Life, B d.Approve], .box 155 [S x11.Tag, .d (Sl eS x11.Users)]] rfl ?_
            obtain ⟨y20, hy20, h21⟩ := bi_ok hy17
            refine go_ops hΓ 7 rfl ?_
            refine eo_callP (callable Tryz.func104 rfl rfl) (c_laneref2_Key hy20) rfl (Nat.le_of_ble_eq_true rfl) rfl rfl rfl rfl rfl ?_
            refine go_ops hΓ 3 rfl ?_
            refine j_cond rfl (fun hb => ?_) (fun hb => ?_)
            · have h22 := cT h21 hb
              refine go hΓ 9 rfl ?_
              obtain ⟨v23, hv23, h24⟩ := bi_ok h22
              obtain rfl := Option.some.inj h24
              obtain rfl := hout18 _ rfl
              obtain rfl := Option.some.inj h13
              refine go hΓ 4 rfl ?_
              obtain rfl := Option.some.inj hv23
              exact fin_pure hΓ (.inr rfl) rfl rfl
            · have h25 := cF h21 hb
              obtain ⟨q26, hq26, h27⟩ := bi_ok h25
              refine go hΓ 4 rfl ?_
              refine j_cutNZ [(1, .ptr 0 0), (5, .ptr 1 0), (23, .d (Sl e_api_Owner d.Owners)), (24, I (d.Owners.length : Int)), (25, I (i9 : Int)), (47, B q26)] [.box 29 [.d (Sl eS d.Users), .d (Sl e_api_Owner d.Owners), I d.Life, B d.Approve], .box 155 [S x11.Tag, .d (Sl eS x11.Users)]] ?_ ?_
              · refine j_draw hmix (by kernel_rfl) ?_
                refine go hΓ 3 rfl ?_
                refine gl_gsplit rfl rfl (fun hb => ?_) (fun hb => ?_)
                · have h28 := cT hq26 hb
                  obtain ⟨x29, hx29, h30⟩ := bi_ok h28
                  refine go_draw hΓ 6 rfl ?_
                  refine gl_og rfl rfl (op_elemZ hΓ (enc := e_api_Owner) hx29 rfl rfl rfl rfl rfl (fun _ => rfl)) ?_
                  refine go_draw hΓ 5 rfl ?_
                  obtain rfl := Option.some.inj h30
                  exact ⟨⟨rfl, rfl, rfl, rfl, rfl, rfl, trivial⟩, [], rfl, .inl rfl⟩
                · have h31 := cF hq26 hb
                  refine go_draw hΓ 12 rfl ?_
                  obtain rfl := Option.some.inj h31
                  exact ⟨⟨rfl, rfl, rfl, rfl, rfl, rfl, trivial⟩, [], rfl, .inl rfl⟩
              · refine go hΓ 1 rfl ?_
                refine j_cond rfl (fun hb => ?_) (fun hb => ?_)
                · have h32 := cT h27 hb
                  refine go hΓ 9 rfl ?_
                  obtain ⟨v33, hv33, h34⟩ := bi_ok h32
                  obtain rfl := Option.some.inj h34
                  obtain rfl := hout18 _ rfl
                  obtain rfl := Option.some.inj h13
                  refine go hΓ 4 rfl ?_
                  obtain rfl := Option.some.inj hv33
                  exact fin_pure hΓ (.inr rfl) rfl rfl
                · have h35 := cF h27 hb
                  refine go hΓ 10 rfl ?_
                  obtain ⟨q39, hq39, h40⟩ := bi_ok h35
                  refine j_bound 49 rfl fun hb42 => ?_
                  refine j_cutEZ (R := fun a41 => q39 = .go a41) (fun a41 => [(1, .ptr 0 0), (23, .d (Sl e_api_Owner d.Owners)), (24, I (d.Owners.length : Int)), (25, I (i9 : Int))]) (fun a41 => [.box 29 [.d (Sl eS d.Users), .d (Sl e_api_Owner d.Owners), I d.Life, B d.Approve], .box 155 [S x11.Tag, .d (Sl eS x11.Users)]]) ?_ ?_
                  · refine go hΓ 1 rfl ?_
                    refine j_range x11.Users hq39 (fun i36 s37 => [(1, .ptr 0 0), (5, .ptr 1 0), (23, .d (Sl e_api_Owner d.Owners)), (24, I (d.Owners.length : Int)), (25, I (i9 : Int)), (49, .d (Sl eS x11.Users)), (50, I (x11.Users.length : Int)), (51, I (i36 : Int))]) (fun s37 => [.box 29 [.d (Sl eS d.Users), .d (Sl e_api_Owner d.Owners), I d.Life, B d.Approve], .box 155 [S x11.Tag, .d (Sl eS x11.Users)]]) ⟨⟨rfl, rfl, rfl, rfl, rfl, rfl, rfl, rfl, trivial⟩, [], rfl, .inl rfl⟩ (fun i36 x38 s37 y46 hx43 hlt hy44 hout45 => ?_) (fun s37 hgo => ?_)
                    · refine go hΓ 6 rfl ?_
                      refine j_condT rfl (decide_eq_true (Int.ofNat_lt.2 hlt)) ?_
                      refine go hΓ 7 rfl ?_
                      refine eo_o rfl (op_elemZ hΓ (enc := eS) (getZ_nat hx43) rfl rfl rfl rfl rfl (fun _ => rfl)) ?_
                      obtain ⟨y47, hy47, h48⟩ := bi_ok hy44
                      refine go_ops hΓ 11 rfl ?_
                      refine eo_callP (callable Tryz.func61 rfl rfl) (c_slices_Contains_string_string hy47) rfl (Nat.le_of_ble_eq_true rfl) rfl rfl rfl rfl rfl ?_
                      refine go_ops hΓ 3 rfl ?_
                      refine j_cond rfl (fun hb => ?_) (fun hb => ?_)
                      · have h49 := cT h48 hb
                        refine go hΓ 9 rfl ?_
                        obtain ⟨v50, hv50, h51⟩ := bi_ok h49
                        obtain rfl := Option.some.inj h51
                        obtain rfl := hout45 _ rfl
                        obtain rfl := Option.some.inj h40
                        refine go hΓ 5 rfl ?_
                        obtain ⟨v52, hv52, h53⟩ := bi_ok hv50
                        obtain rfl := Option.some.inj h53
                        obtain rfl := hout18 _ rfl
                        obtain rfl := Option.some.inj h13
                        refine go hΓ 4 rfl ?_
                        obtain rfl := Option.some.inj hv52
                        exact fin_pure hΓ (.inr rfl) rfl rfl
                      · have h54 := cF h48 hb
                        refine go hΓ 7 rfl ?_
                        obtain ⟨q55, hq55, h56⟩ := bi_ok h54
                        refine o_cut 9 [(1, .ptr 0 0), (5, .ptr 1 0), (23, .d (Sl e_api_Owner d.Owners)), (24, I (d.Owners.length : Int)), (25, I (i9 : Int)), (49, .d (Sl eS x11.Users)), (50, I (x11.Users.length : Int)), (51, I (i36 : Int)), (72, B q55)] [.box 29 [.d (Sl eS d.Users), .d (Sl e_api_Owner d.Owners), I d.Life, B d.Approve], .box 155 [S x11.Tag, .d (Sl eS x11.Users)]] ?_ ?_
                        · refine eo_gsplit rfl rfl (fun hb => ?_) (fun hb => ?_)
                          · have h57 := cT hq55 hb
                            obtain ⟨x58, hx58, h59⟩ := bi_ok h57
                            refine go_ops hΓ 5 rfl ?_
                            refine eo_guard rfl ?_
                            refine eo_o rfl (op_elemZ hΓ (enc := eS) hx58 rfl rfl rfl rfl rfl (fun _ => rfl)) ?_
                            refine go_ops hΓ 4 rfl ?_
                            obtain rfl := Option.some.inj h59
                            exact ⟨⟨rfl, rfl, rfl, rfl, rfl, rfl, rfl, rfl, rfl, trivial⟩, [], rfl, .inl rfl⟩
                          · have h60 := cF hq55 hb
                            refine go_ops hΓ 10 rfl ?_
                            obtain rfl := Option.some.inj h60
                            exact ⟨⟨rfl, rfl, rfl, rfl, rfl, rfl, rfl, rfl, rfl, trivial⟩, [], rfl, .inl rfl⟩
                        · refine go_ops hΓ 2 rfl ?_
                          refine j_cond rfl (fun hb => ?_) (fun hb => ?_)
                          · have h61 := cT h56 hb
                            refine go hΓ 8 rfl ?_
                            obtain ⟨v62, hv62, h63⟩ := bi_ok h61
                            obtain rfl := Option.some.inj h63
                            obtain rfl := hout45 _ rfl
                            obtain rfl := Option.some.inj h40
                            refine go hΓ 5 rfl ?_
                            obtain ⟨v64, hv64, h65⟩ := bi_ok hv62
                            obtain rfl := Option.some.inj h65
                            obtain rfl := hout18 _ rfl
                            obtain rfl := Option.some.inj h13
                            refine go hΓ 4 rfl ?_
                            obtain rfl := Option.some.inj hv64
                            exact fin_pure hΓ (.inr rfl) rfl rfl
                          · have h66 := cF h56 hb
                            refine go hΓ 7 rfl ?_
                            obtain rfl := Option.some.inj h66
                            exact ⟨_, rfl, ⟨⟨rfl, rfl, rfl, rfl, rfl, rfl, rfl, get_eq rfl (w64_succ (Nat.lt_of_lt_of_le hlt hb42)), trivial⟩, [], rfl, .inl rfl⟩⟩
                    · subst hgo
                      refine go hΓ 6 rfl ?_
                      refine j_condF rfl (decide_eq_false (Int.lt_irrefl _)) ?_
                      refine go hΓ 4 rfl ?_
                      exact ⟨_, rfl, ⟨⟨rfl, rfl, rfl, rfl, trivial⟩, [], rfl, .inl rfl⟩⟩
                  · intro a41 ha
                    subst ha
                    replace h40 := goI_l h40
                    refine go hΓ 6 rfl ?_
                    obtain rfl := Option.some.inj h40
                    exact ⟨_, rfl, ⟨⟨rfl, rfl, rfl, get_eq rfl (w64_succ (Nat.lt_of_lt_of_le hlt hb15)), trivial⟩, [_], rfl, .inr ⟨HB.mk rfl, FB.mk rfl, (Nat.le_of_ble_eq_true rfl)⟩⟩⟩
          · subst hgo
            refine go hΓ 6 rfl ?_
            refine j_condF rfl (decide_eq_false (Int.lt_irrefl _)) ?_
            refine go hΓ 4 rfl ?_
            exact ⟨_, rfl, ⟨⟨rfl, trivial⟩, [], rfl, .inl rfl⟩⟩
        · intro a14 ha
          subst ha
          replace h13 := goI_l h13
          obtain ⟨y67, hy67, h68⟩ := bi_ok h13
          refine go hΓ 6 rfl ?_
          refine eo_callP (callable Tryz.func105 rfl rfl) (c_laneref1_in hy67) rfl (Nat.le_of_ble_eq_true rfl) rfl rfl rfl rfl rfl ?_
          refine go_ops hΓ 3 rfl ?_
          refine j_cond rfl (fun hb => ?_) (fun hb => ?_)
          · have h69 := cT h68 hb
            refine go hΓ 7 rfl ?_
            obtain rfl := Option.some.inj h69
            exact fin_pure hΓ (.inr rfl) rfl rfl
          · have h70 := cF h68 hb
            refine go hΓ 8 rfl ?_
            obtain rfl := Option.some.inj h70
            exact fin_pure hΓ (.inr rfl) rfl rfl
theorem c_laneref2_Moment {v_at : Int} {r : Bool} (h : m_laneref2_Moment v_at = some r) : Pure Tryz.prog 143 [I v_at] (B r) := by
  refine Pure.enter (Fr.of 0 _) Tryz.func143 rfl (Fr.of_ok _) rfl rfl ?_
  refine go_in ?_
  unfold m_laneref2_Moment at h
  obtain ⟨y1, hy1, h2⟩ := bi_ok h
  refine go hΓ 8 rfl ?_
  refine eo_callP (callable Tryz.func211 rfl rfl) (c_laneref2_in hy1) rfl (Nat.le_of_ble_eq_true rfl) rfl rfl rfl rfl rfl ?_
  refine go_ops hΓ 4 rfl ?_
  obtain rfl := Option.some.inj h2
  exact fin_pure hΓ (.inr rfl) rfl rfl
theorem c_laneref1_uses {kind : Int} {r : Str} (h : m_laneref1_uses kind = some r) : Pure Tryz.prog 198 [I kind] (S r) := by
  refine Pure.enter (Fr.of 0 _) Tryz.func198 rfl (Fr.of_ok _) rfl rfl ?_
  refine go_in ?_
  unfold m_laneref1_uses at h
  refine go hΓ 7 rfl ?_
  refine eo_litT hΓ (enc := eS) [[], [98, 106, 116, 117, 115, 114], [98, 106], [66, 110, 74, 112, 109], [98, 110], [98, 110, 112], [98, 110, 109], [98, 110, 116], [98, 110], [98, 110]] rfl rfl rfl rfl rfl rfl rfl rfl rfl rfl rfl rfl (Nat.le_of_ble_eq_true rfl) ?_
  obtain ⟨x1, hx1, h2⟩ := bi_ok h
  refine go_ops hΓ 1 rfl ?_
  refine eo_o rfl (op_elemZ hΓ (enc := eS) hx1 rfl rfl rfl rfl rfl (fun _ => rfl)) ?_
  refine go_ops hΓ 5 rfl ?_
  obtain rfl := Option.some.inj h2
  exact fin_pure hΓ (.inr rfl) rfl rfl
theorem c_laneref1_keyFault {s : Str} {r : Int} (h : m_laneref1_keyFault s = some r) : Pure Tryz.prog 144 [S s] (I r) := by
  refine Pure.enter (Fr.of 0 _) Tryz.func144 rfl (Fr.of_ok _) rfl rfl ?_
  refine go_in ?_
  unfold m_laneref1_keyFault at h
  obtain ⟨y1, hy1, h2⟩ := bi_ok h
  refine go hΓ 9 rfl ?_
  refine eo_callP (callable Tryz.func104 rfl rfl) (c_laneref2_Key hy1) rfl (Nat.le_of_ble_eq_true rfl) rfl rfl rfl rfl rfl ?_
  refine go_ops hΓ 3 rfl ?_
  refine j_cond rfl (fun hb => ?_) (fun hb => ?_)
  · have h3 := cT h2 hb
    refine go hΓ 7 rfl ?_
    obtain rfl := Option.some.inj h3
    exact fin_pure hΓ (.inr rfl) rfl rfl
  · have h4 := cF h2 hb
    refine go hΓ 8 rfl ?_
    obtain rfl := Option.some.inj h4
    exact fin_pure hΓ (.inr rfl) rfl rfl
theorem c_laneref1_PublicForm {s : Str} {r : Bool} (h : m_laneref1_PublicForm s = some r) : Pure Tryz.prog 60 [S s] (B r) := by
  refine Pure.enter (Fr.of 0 _) Tryz.func60 rfl (Fr.of_ok _) rfl rfl ?_
  refine go_in ?_
  unfold m_laneref1_PublicForm at h
  obtain ⟨y1, hy1, h2⟩ := bi_ok h
  refine go hΓ 9 rfl ?_
  refine eo_callP (callable Tryz.func105 rfl rfl) (c_laneref1_in hy1) rfl (Nat.le_of_ble_eq_true rfl) rfl rfl rfl rfl rfl ?_
  refine go_ops hΓ 1 rfl ?_
  obtain ⟨q3, hq3, h4⟩ := bi_ok h2
  refine o_cut 4 [(2, B false), (10, B q3)] [] ?_ ?_
  · refine eo_gsplit rfl rfl (fun hb => ?_) (fun hb => ?_)
    · have h5 := cT hq3 hb
      obtain ⟨y6, hy6, h7⟩ := bi_ok h5
      refine go_ops hΓ 1 rfl ?_
      refine eo_guard rfl ?_
      refine eo_callP (callable Tryz.func153 rfl rfl) (c_strings_Trim hy6) rfl (Nat.le_of_ble_eq_true rfl) rfl rfl rfl rfl rfl ?_
      refine go_ops hΓ 3 rfl ?_
      obtain rfl := Option.some.inj h7
      exact ⟨⟨rfl, rfl, trivial⟩, [], rfl, .inl rfl⟩
    · have h8 := cF hq3 hb
      refine go_ops hΓ 5 rfl ?_
      obtain rfl := Option.some.inj h8
      exact ⟨⟨rfl, rfl, trivial⟩, [], rfl, .inl rfl⟩
  · refine go_ops hΓ 4 rfl ?_
    obtain rfl := Option.some.inj h4
    exact fin_pure hΓ (.inr rfl) rfl rfl
set_option maxHeartbeats 8000000 in
theorem c_laneref1_fieldFault {s : T_api_Step} {c : Int} {r : Int} (h : m_laneref1_fieldFault s c = some r) : Pure Tryz.prog 199 [.agg [I s.At, S s.Server, I s.No, I s.Kind, S s.By, S s.Node, S s.Join, S s.Public, S s.Name, .d (Sl eS s.Tags), I s.Until, I s.Uses, B s.Ready], .d (.v (.int .i32 c))] (I r) := by
  refine Pure.enter (Fr.of 0 _) Tryz.func199 rfl (Fr.of_ok _) rfl rfl ?_
  refine go_in ?_
  unfold m_laneref1_fieldFault at h
  refine go hΓ 2 rfl ?_
  refine eo_box rfl rfl rfl rfl (Nat.le_of_ble_eq_true rfl) ?_
  obtain ⟨q1, hq1, h2⟩ := bi_ok h
  refine go_ops hΓ 9 rfl ?_
  refine j_cutSZ (q := q1) (fun a3 => []) (fun a3 => [.box 37 [I s.At, S s.Server, I s.No, I s.Kind, S s.By, S s.Node, S s.Join, S s.Public, S s.Name, .d (Sl eS s.Tags), I s.Until, I s.Uses, B s.Ready]]) ?_ ?_
  · obtain ⟨q4, hq4, h5⟩ := bi_ok hq1
    refine go hΓ 8 rfl ?_
    refine j_cutNZ [(1, .d (.v (.int .i32 c))), (2, .ptr 0 0), (6, .d (.v (.int .i32 c))), (7, B q4)] [.box 37 [I s.At, S s.Server, I s.No, I s.Kind, S s.By, S s.Node, S s.Join, S s.Public, S s.Name, .d (Sl eS s.Tags), I s.Until, I s.Uses, B s.Ready]] ?_ ?_
    · refine j_cond rfl (fun hb => ?_) (fun hb => ?_)
      · have h6 := cT hq4 hb
        refine go hΓ 1 rfl ?_
        obtain rfl := Option.some.inj h6
        exact ⟨⟨rfl, rfl, rfl, rfl, trivial⟩, [], rfl, .inl rfl⟩
      · have h7 := cF hq4 hb
        refine go hΓ 6 rfl ?_
        refine j_cond rfl (fun hb => ?_) (fun hb => ?_)
        · have h8 := cT h7 hb
          refine go hΓ 1 rfl ?_
          obtain rfl := Option.some.inj h8
          exact ⟨⟨rfl, rfl, rfl, rfl, trivial⟩, [], rfl, .inl rfl⟩
        · have h9 := cF h7 hb
          refine go hΓ 6 rfl ?_
          refine j_cond rfl (fun hb => ?_) (fun hb => ?_)
          · have h10 := cT h9 hb
            refine go hΓ 1 rfl ?_
            obtain rfl := Option.some.inj h10
            exact ⟨⟨rfl, rfl, rfl, rfl, trivial⟩, [], rfl, .inl rfl⟩
          · have h11 := cF h9 hb
            refine go hΓ 4 rfl ?_
            obtain rfl := Option.some.inj h11
            exact ⟨⟨rfl, rfl, rfl, rfl, trivial⟩, [], rfl, .inl rfl⟩
    · refine go hΓ 1 rfl ?_
      refine j_cond rfl (fun hb => ?_) (fun hb => ?_)
      · have h12 := cT h5 hb
        refine go hΓ 2 rfl ?_
        refine eo_s (Nat.le_of_ble_eq_true rfl) (nblt.1 rfl) (ops_makeMap false) ?_
        refine eo_hp [.box 37 [I s.At, S s.Server, I s.No, I s.Kind, S s.By, S s.Node, S s.Join, S s.Public, S s.Name, .d (Sl eS s.Tags), I s.Until, I s.Uses, B s.Ready], mOb (kI .i32) false eS ([] : List (Int × Str))] rfl ?_
        refine go_ops hΓ 2 rfl ?_
        refine eo_u (Nat.le_of_ble_eq_true rfl) (opu_insert hΓ (kv := (kI .i32)) (agg := false) (enc := eS) (id := 1) ([] : List (Int × Str)) 98 s.By rfl rfl rfl (key_int .i32) rfl rfl rfl rfl rfl) ?_
        refine eo_hp [.box 37 [I s.At, S s.Server, I s.No, I s.Kind, S s.By, S s.Node, S s.Join, S s.Public, S s.Name, .d (Sl eS s.Tags), I s.Until, I s.Uses, B s.Ready], mOb (kI .i32) false eS (mSet ([] : List (Int × Str)) 98 s.By)] rfl ?_
        refine go_ops hΓ 2 rfl ?_
        refine eo_u (Nat.le_of_ble_eq_true rfl) (opu_insert hΓ (kv := (kI .i32)) (agg := false) (enc := eS) (id := 1) (mSet ([] : List (Int × Str)) 98 s.By) 110 s.Node rfl rfl rfl (key_int .i32) rfl rfl rfl rfl rfl) ?_
        refine eo_hp [.box 37 [I s.At, S s.Server, I s.No, I s.Kind, S s.By, S s.Node, S s.Join, S s.Public, S s.Name, .d (Sl eS s.Tags), I s.Until, I s.Uses, B s.Ready], mOb (kI .i32) false eS (mSet (mSet ([] : List (Int × Str)) 98 s.By) 110 s.Node)] rfl ?_
        refine go_ops hΓ 2 rfl ?_
        refine eo_u (Nat.le_of_ble_eq_true rfl) (opu_insert hΓ (kv := (kI .i32)) (agg := false) (enc := eS) (id := 1) (mSet (mSet ([] : List (Int × Str)) 98 s.By) 110 s.Node) 106 s.Join rfl rfl rfl (key_int .i32) rfl rfl rfl rfl rfl) ?_
        refine eo_hp [.box 37 [I s.At, S s.Server, I s.No, I s.Kind, S s.By, S s.Node, S s.Join, S s.Public, S s.Name, .d (Sl eS s.Tags), I s.Until, I s.Uses, B s.Ready], mOb (kI .i32) false eS (mSet (mSet (mSet ([] : List (Int × Str)) 98 s.By) 110 s.Node) 106 s.Join)] rfl ?_
        refine go_ops hΓ 2 rfl ?_
        refine eo_u (Nat.le_of_ble_eq_true rfl) (opu_insert hΓ (kv := (kI .i32)) (agg := false) (enc := eS) (id := 1) (mSet (mSet (mSet ([] : List (Int × Str)) 98 s.By) 110 s.Node) 106 s.Join) 109 s.Name rfl rfl rfl (key_int .i32) rfl rfl rfl rfl rfl) ?_
        refine eo_hp [.box 37 [I s.At, S s.Server, I s.No, I s.Kind, S s.By, S s.Node, S s.Join, S s.Public, S s.Name, .d (Sl eS s.Tags), I s.Until, I s.Uses, B s.Ready], mOb (kI .i32) false eS (mSet (mSet (mSet (mSet ([] : List (Int × Str)) 98 s.By) 110 s.Node) 106 s.Join) 109 s.Name)] rfl ?_
        refine go_ops hΓ 2 rfl ?_
        refine eo_o rfl (op_lookup hΓ (kv := (kI .i32)) (agg := false) (enc := eS) (mSet (mSet (mSet (mSet ([] : List (Int × Str)) 98 s.By) 110 s.Node) 106 s.Join) 109 s.Name) c ([] : Str) rfl rfl rfl rfl (key_int .i32) rfl rfl rfl rfl rfl rfl rfl) ?_
        obtain ⟨y13, hy13, h14⟩ := bi_ok h12
        refine eo_callP (callable Tryz.func144 rfl rfl) (c_laneref1_keyFault hy13) rfl (Nat.le_of_ble_eq_true rfl) rfl rfl rfl rfl rfl ?_
        refine go_ops hΓ 5 rfl ?_
        obtain ⟨v15, hv15, h16⟩ := bi_ok h14
        obtain rfl := Option.some.inj h16
        obtain rfl := Option.some.inj h2
        refine go hΓ 2 rfl ?_
        obtain rfl := Option.some.inj hv15
        exact fin_pure hΓ (.inr rfl) rfl rfl
      · have h17 := cF h5 hb
        obtain ⟨q18, hq18, h19⟩ := bi_ok h17
        refine go hΓ 7 rfl ?_
        refine j_cutNZ [(1, .d (.v (.int .i32 c))), (2, .ptr 0 0), (6, .d (.v (.int .i32 c))), (25, B q18)] [.box 37 [I s.At, S s.Server, I s.No, I s.Kind, S s.By, S s.Node, S s.Join, S s.Public, S s.Name, .d (Sl eS s.Tags), I s.Until, I s.Uses, B s.Ready]] ?_ ?_
        · refine j_cond rfl (fun hb => ?_) (fun hb => ?_)
          · have h20 := cT hq18 hb
            refine go hΓ 1 rfl ?_
            obtain rfl := Option.some.inj h20
            exact ⟨⟨rfl, rfl, rfl, rfl, trivial⟩, [], rfl, .inl rfl⟩
          · have h21 := cF hq18 hb
            refine go hΓ 4 rfl ?_
            obtain rfl := Option.some.inj h21
            exact ⟨⟨rfl, rfl, rfl, rfl, trivial⟩, [], rfl, .inl rfl⟩
        · refine go hΓ 1 rfl ?_
          refine j_cond rfl (fun hb => ?_) (fun hb => ?_)
          · have h22 := cT h19 hb
            refine go hΓ 2 rfl ?_
            refine eo_s (Nat.le_of_ble_eq_true rfl) (nblt.1 rfl) (ops_makeMap false) ?_
            refine eo_hp [.box 37 [I s.At, S s.Server, I s.No, I s.Kind, S s.By, S s.Node, S s.Join, S s.Public, S s.Name, .d (Sl eS s.Tags), I s.Until, I s.Uses, B s.Ready], mOb (kI .i32) false eS ([] : List (Int × Str))] rfl ?_
            refine go_ops hΓ 2 rfl ?_
            refine eo_u (Nat.le_of_ble_eq_true rfl) (opu_insert hΓ (kv := (kI .i32)) (agg := false) (enc := eS) (id := 1) ([] : List (Int × Str)) 66 s.By rfl rfl rfl (key_int .i32) rfl rfl rfl rfl rfl) ?_
            refine eo_hp [.box 37 [I s.At, S s.Server, I s.No, I s.Kind, S s.By, S s.Node, S s.Join, S s.Public, S s.Name, .d (Sl eS s.Tags), I s.Until, I s.Uses, B s.Ready], mOb (kI .i32) false eS (mSet ([] : List (Int × Str)) 66 s.By)] rfl ?_
            refine go_ops hΓ 2 rfl ?_
            refine eo_u (Nat.le_of_ble_eq_true rfl) (opu_insert hΓ (kv := (kI .i32)) (agg := false) (enc := eS) (id := 1) (mSet ([] : List (Int × Str)) 66 s.By) 74 s.Join rfl rfl rfl (key_int .i32) rfl rfl rfl rfl rfl) ?_
            refine eo_hp [.box 37 [I s.At, S s.Server, I s.No, I s.Kind, S s.By, S s.Node, S s.Join, S s.Public, S s.Name, .d (Sl eS s.Tags), I s.Until, I s.Uses, B s.Ready], mOb (kI .i32) false eS (mSet (mSet ([] : List (Int × Str)) 66 s.By) 74 s.Join)] rfl ?_
            refine go_ops hΓ 2 rfl ?_
            refine eo_o rfl (op_lookup hΓ (kv := (kI .i32)) (agg := false) (enc := eS) (mSet (mSet ([] : List (Int × Str)) 66 s.By) 74 s.Join) c ([] : Str) rfl rfl rfl rfl (key_int .i32) rfl rfl rfl rfl rfl rfl rfl) ?_
            refine go_ops hΓ 9 rfl ?_
            refine j_cond rfl (fun hb => ?_) (fun hb => ?_)
            · have h23 := cT h22 hb
              obtain ⟨y24, hy24, h25⟩ := bi_ok h23
              refine go hΓ 3 rfl ?_
              refine eo_callP (callable Tryz.func144 rfl rfl) (c_laneref1_keyFault hy24) rfl (Nat.le_of_ble_eq_true rfl) rfl rfl rfl rfl rfl ?_
              refine go_ops hΓ 5 rfl ?_
              obtain ⟨v26, hv26, h27⟩ := bi_ok h25
              obtain rfl := Option.some.inj h27
              obtain rfl := Option.some.inj h2
              refine go hΓ 2 rfl ?_
              obtain rfl := Option.some.inj hv26
              exact fin_pure hΓ (.inr rfl) rfl rfl
            · have h28 := cF h22 hb
              refine go hΓ 2 rfl ?_
              obtain rfl := Option.some.inj h28
              exact ⟨_, rfl, ⟨trivial, [_], rfl, .inr ⟨HB.mk rfl, FB.mk rfl, (Nat.le_of_ble_eq_true rfl)⟩⟩⟩
          · have h29 := cF h19 hb
            refine go hΓ 6 rfl ?_
            refine j_cond rfl (fun hb => ?_) (fun hb => ?_)
            · have h30 := cT h29 hb
              obtain ⟨y31, hy31, h32⟩ := bi_ok h30
              refine go hΓ 4 rfl ?_
              refine eo_callP (callable Tryz.func60 rfl rfl) (c_laneref1_PublicForm hy31) rfl (Nat.le_of_ble_eq_true rfl) rfl rfl rfl rfl rfl ?_
              refine go_ops hΓ 3 rfl ?_
              refine j_cond rfl (fun hb => ?_) (fun hb => ?_)
              · have h33 := cT h32 hb
                refine go hΓ 7 rfl ?_
                obtain ⟨v34, hv34, h35⟩ := bi_ok h33
                obtain rfl := Option.some.inj h35
                obtain rfl := Option.some.inj h2
                refine go hΓ 2 rfl ?_
                obtain rfl := Option.some.inj hv34
                exact fin_pure hΓ (.inr rfl) rfl rfl
              · have h36 := cF h32 hb
                refine go hΓ 2 rfl ?_
                obtain rfl := Option.some.inj h36
                exact ⟨_, rfl, ⟨trivial, [], rfl, .inl rfl⟩⟩
            · have h37 := cF h29 hb
              refine go hΓ 6 rfl ?_
              refine j_cond rfl (fun hb => ?_) (fun hb => ?_)
              · have h38 := cT h37 hb
                refine go hΓ 9 rfl ?_
                refine j_cond rfl (fun hb => ?_) (fun hb => ?_)
                · have h39 := cT h38 hb
                  refine go hΓ 8 rfl ?_
                  obtain ⟨v40, hv40, h41⟩ := bi_ok h39
                  obtain rfl := Option.some.inj h41
                  obtain rfl := Option.some.inj h2
                  refine go hΓ 2 rfl ?_
                  obtain rfl := Option.some.inj hv40
                  exact fin_pure hΓ (.inr rfl) rfl rfl
                · have h42 := cF h38 hb
                  obtain ⟨y43, hy43, h44⟩ := bi_ok h42
                  refine go hΓ 6 rfl ?_
                  refine eo_callP (callable Tryz.func103 rfl rfl) (c_laneref1_rising hy43) rfl (Nat.le_of_ble_eq_true rfl) rfl rfl rfl rfl rfl ?_
                  refine go_ops hΓ 5 rfl ?_
                  obtain ⟨v45, hv45, h46⟩ := bi_ok h44
                  obtain rfl := Option.some.inj h46
                  obtain rfl := Option.some.inj h2
                  refine go hΓ 2 rfl ?_
                  obtain rfl := Option.some.inj hv45
                  exact fin_pure hΓ (.inr rfl) rfl rfl
              · have h47 := cF h37 hb
                obtain ⟨q48, hq48, h49⟩ := bi_ok h47
                refine go hΓ 7 rfl ?_
                refine j_cutNZ [(1, .d (.v (.int .i32 c))), (2, .ptr 0 0), (55, B q48)] [.box 37 [I s.At, S s.Server, I s.No, I s.Kind, S s.By, S s.Node, S s.Join, S s.Public, S s.Name, .d (Sl eS s.Tags), I s.Until, I s.Uses, B s.Ready]] ?_ ?_
                · refine j_cond rfl (fun hb => ?_) (fun hb => ?_)
                  · have h50 := cT hq48 hb
                    refine go hΓ 1 rfl ?_
                    obtain rfl := Option.some.inj h50
                    exact ⟨⟨rfl, rfl, rfl, trivial⟩, [], rfl, .inl rfl⟩
                  · have h51 := cF hq48 hb
                    refine go hΓ 4 rfl ?_
                    obtain rfl := Option.some.inj h51
                    exact ⟨⟨rfl, rfl, rfl, trivial⟩, [], rfl, .inl rfl⟩
                · refine go hΓ 1 rfl ?_
                  refine j_cond rfl (fun hb => ?_) (fun hb => ?_)
                  · have h52 := cT h49 hb
                    refine go hΓ 2 rfl ?_
                    refine eo_s (Nat.le_of_ble_eq_true rfl) (nblt.1 rfl) (ops_makeMap false) ?_
                    refine eo_hp [.box 37 [I s.At, S s.Server, I s.No, I s.Kind, S s.By, S s.Node, S s.Join, S s.Public, S s.Name, .d (Sl eS s.Tags), I s.Until, I s.Uses, B s.Ready], mOb (kI .i32) false (eN .i64) ([] : List (Int × Int))] rfl ?_
                    refine go_ops hΓ 2 rfl ?_
                    refine eo_u (Nat.le_of_ble_eq_true rfl) (opu_insert hΓ (kv := (kI .i32)) (agg := false) (enc := (eN .i64)) (id := 1) ([] : List (Int × Int)) 117 s.Until rfl rfl rfl (key_int .i32) rfl rfl rfl rfl rfl) ?_
                    refine eo_hp [.box 37 [I s.At, S s.Server, I s.No, I s.Kind, S s.By, S s.Node, S s.Join, S s.Public, S s.Name, .d (Sl eS s.Tags), I s.Until, I s.Uses, B s.Ready], mOb (kI .i32) false (eN .i64) (mSet ([] : List (Int × Int)) 117 s.Until)] rfl ?_
                    refine go_ops hΓ 2 rfl ?_
                    refine eo_u (Nat.le_of_ble_eq_true rfl) (opu_insert hΓ (kv := (kI .i32)) (agg := false) (enc := (eN .i64)) (id := 1) (mSet ([] : List (Int × Int)) 117 s.Until) 115 s.Uses rfl rfl rfl (key_int .i32) rfl rfl rfl rfl rfl) ?_
                    refine eo_hp [.box 37 [I s.At, S s.Server, I s.No, I s.Kind, S s.By, S s.Node, S s.Join, S s.Public, S s.Name, .d (Sl eS s.Tags), I s.Until, I s.Uses, B s.Ready], mOb (kI .i32) false (eN .i64) (mSet (mSet ([] : List (Int × Int)) 117 s.Until) 115 s.Uses)] rfl ?_
                    refine go_ops hΓ 2 rfl ?_
                    refine eo_o rfl (op_lookup hΓ (kv := (kI .i32)) (agg := false) (enc := (eN .i64)) (mSet (mSet ([] : List (Int × Int)) 117 s.Until) 115 s.Uses) c (0 : Int) rfl rfl rfl rfl (key_int .i32) rfl rfl rfl rfl rfl rfl rfl) ?_
                    obtain ⟨y53, hy53, h54⟩ := bi_ok h52
                    refine eo_callP (callable Tryz.func105 rfl rfl) (c_laneref1_in hy53) rfl (Nat.le_of_ble_eq_true rfl) rfl rfl rfl rfl rfl ?_
                    refine go_ops hΓ 3 rfl ?_
                    refine j_cond rfl (fun hb => ?_) (fun hb => ?_)
                    · have h55 := cT h54 hb
                      refine go hΓ 7 rfl ?_
                      obtain ⟨v56, hv56, h57⟩ := bi_ok h55
                      obtain rfl := Option.some.inj h57
                      obtain rfl := Option.some.inj h2
                      refine go hΓ 2 rfl ?_
                      obtain rfl := Option.some.inj hv56
                      exact fin_pure hΓ (.inr rfl) rfl rfl
                    · have h58 := cF h54 hb
                      refine go hΓ 2 rfl ?_
                      obtain rfl := Option.some.inj h58
                      exact ⟨_, rfl, ⟨trivial, [_], rfl, .inr ⟨HB.mk rfl, FB.mk rfl, (Nat.le_of_ble_eq_true rfl)⟩⟩⟩
                  · have h59 := cF h49 hb
                    refine go hΓ 2 rfl ?_
                    obtain rfl := Option.some.inj h59
                    exact ⟨_, rfl, ⟨trivial, [], rfl, .inl rfl⟩⟩
  · intro a3 ha
    subst ha
    replace h2 := orI_l h2
    refine go hΓ 7 rfl ?_
    obtain rfl := Option.some.inj h2
    exact fin_pure hΓ (.inr rfl) rfl rfl
set_option maxHeartbeats 8000000 in
theorem c_laneref1_stepFault {s : T_api_Step} {r : Int} (h : m_laneref1_stepFault s = some r) : Pure Tryz.prog 95 [.agg [I s.At, S s.Server, I s.No, I s.Kind, S s.By, S s.Node, S s.Join, S s.Public, S s.Name, .d (Sl eS s.Tags), I s.Until, I s.Uses, B s.Ready]] (I r) := by
  refine Pure.enter (Fr.of 0 _) Tryz.func95 rfl (Fr.of_ok _) rfl rfl ?_
  refine go_in ?_
  unfold m_laneref1_stepFault at h
  refine go hΓ 2 rfl ?_
  refine eo_box rfl rfl rfl rfl (Nat.le_of_ble_eq_true rfl) ?_
  obtain ⟨y1, hy1, h2⟩ := bi_ok h
  refine go_ops hΓ 9 rfl ?_
  refine eo_callP (callable Tryz.func143 rfl rfl) (c_laneref2_Moment hy1) rfl (Nat.le_of_ble_eq_true rfl) rfl rfl rfl rfl rfl ?_
  refine go_ops hΓ 4 rfl ?_
  refine j_cond rfl (fun hb => ?_) (fun hb => ?_)
  · have h3 := cT h2 hb
    refine go hΓ 8 rfl ?_
    obtain rfl := Option.some.inj h3
    exact fin_pure hΓ (.inr rfl) rfl rfl
  · have h4 := cF h2 hb
    obtain ⟨y5, hy5, h6⟩ := bi_ok h4
    refine go hΓ 4 rfl ?_
    refine eo_callP (callable Tryz.func104 rfl rfl) (c_laneref2_Key hy5) rfl (Nat.le_of_ble_eq_true rfl) rfl rfl rfl rfl rfl ?_
    refine go_ops hΓ 4 rfl ?_
    refine j_cond rfl (fun hb => ?_) (fun hb => ?_)
    · have h7 := cT h6 hb
      refine go hΓ 8 rfl ?_
      obtain rfl := Option.some.inj h7
      exact fin_pure hΓ (.inr rfl) rfl rfl
    · have h8 := cF h6 hb
      obtain ⟨y9, hy9, h10⟩ := bi_ok h8
      refine go hΓ 4 rfl ?_
      refine eo_callP (callable Tryz.func105 rfl rfl) (c_laneref1_in hy9) rfl (Nat.le_of_ble_eq_true rfl) rfl rfl rfl rfl rfl ?_
      refine go_ops hΓ 4 rfl ?_
      refine j_cond rfl (fun hb => ?_) (fun hb => ?_)
      · have h11 := cT h10 hb
        refine go hΓ 8 rfl ?_
        obtain rfl := Option.some.inj h11
        exact fin_pure hΓ (.inr rfl) rfl rfl
      · have h12 := cF h10 hb
        obtain ⟨y13, hy13, h14⟩ := bi_ok h12
        refine go hΓ 4 rfl ?_
        refine eo_callP (callable Tryz.func105 rfl rfl) (c_laneref1_in hy13) rfl (Nat.le_of_ble_eq_true rfl) rfl rfl rfl rfl rfl ?_
        refine go_ops hΓ 4 rfl ?_
        refine j_cond rfl (fun hb => ?_) (fun hb => ?_)
        · have h15 := cT h14 hb
          refine go hΓ 8 rfl ?_
          obtain rfl := Option.some.inj h15
          exact fin_pure hΓ (.inr rfl) rfl rfl
        · have h16 := cF h14 hb
          obtain ⟨y17, hy17, h18⟩ := bi_ok h16
          refine go hΓ 8 rfl ?_
          refine eo_callP (callable Tryz.func198 rfl rfl) (c_laneref1_uses hy17) rfl (Nat.le_of_ble_eq_true rfl) rfl rfl rfl rfl rfl ?_
          obtain ⟨hg20, h19⟩ := gd_ok h18
          refine eo_rangeS hΓ y17 rfl rfl rfl rfl (Nat.le_of_ble_eq_true rfl) ?_
          refine go_ops hΓ 2 rfl ?_
          obtain ⟨q26, hq26, h27⟩ := bi_ok h19
          refine go hΓ 1 rfl ?_
          refine j_rangeS y17 hq26 (fun sn23 s21 => [(1, .ptr 0 0), (33, .ptr 1 0)]) (fun sn23 s21 => [.box 37 [I s.At, S s.Server, I s.No, I s.Kind, S s.By, S s.Node, S s.Join, S s.Public, S s.Name, .d (Sl eS s.Tags), I s.Until, I s.Uses, B s.Ready], .siter y17 sn23]) ⟨⟨rfl, rfl, trivial⟩, [], rfl, .inl rfl⟩ (fun sn23 s21 hdone28 hstep29 => ?_)
          refine go hΓ 2 rfl ?_
          refine eo_nextS y17 sn23 [.box 37 [I s.At, S s.Server, I s.No, I s.Kind, S s.By, S s.Node, S s.Join, S s.Public, S s.Name, .d (Sl eS s.Tags), I s.Until, I s.Uses, B s.Ready], .dead] rfl rfl rfl rfl (Nat.le_of_ble_eq_true rfl) hg20 (fun hdsn23 => ?_) (fun x22 hjsn23 => ?_)
          · have hqsn23 := hdone28 hdsn23
            subst hqsn23
            replace h27 := goI_l h27
            obtain ⟨y30, hy30, h31⟩ := bi_ok h27
            refine go_ops hΓ 14 rfl ?_
            refine eo_callP (callable Tryz.func198 rfl rfl) (c_laneref1_uses hy30) rfl (Nat.le_of_ble_eq_true rfl) rfl rfl rfl rfl rfl ?_
            obtain ⟨y32, hy32, h33⟩ := bi_ok h31
            refine eo_callP (callable Tryz.func200 rfl rfl) (c_strings_ToLower hy32) rfl (Nat.le_of_ble_eq_true rfl) rfl rfl rfl rfl rfl ?_
            refine go_ops hΓ 5 rfl ?_
            refine eo_s (Nat.le_of_ble_eq_true rfl) (nblt.1 rfl) (ops_makeMap false) ?_
            refine eo_hp [.box 37 [I s.At, S s.Server, I s.No, I s.Kind, S s.By, S s.Node, S s.Join, S s.Public, S s.Name, .d (Sl eS s.Tags), I s.Until, I s.Uses, B s.Ready], .dead, mOb (kI .u8) false eB ([] : List (Int × Bool))] rfl ?_
            refine go_ops hΓ 3 rfl ?_
            refine eo_u (Nat.le_of_ble_eq_true rfl) (opu_insert hΓ (kv := (kI .u8)) (agg := false) (enc := eB) (id := 2) ([] : List (Int × Bool)) 98 ((s.By : Str) == []) rfl rfl rfl (key_int .u8) rfl rfl rfl rfl rfl) ?_
            refine eo_hp [.box 37 [I s.At, S s.Server, I s.No, I s.Kind, S s.By, S s.Node, S s.Join, S s.Public, S s.Name, .d (Sl eS s.Tags), I s.Until, I s.Uses, B s.Ready], .dead, mOb (kI .u8) false eB (mSet ([] : List (Int × Bool)) 98 ((s.By : Str) == []))] rfl ?_
            refine go_ops hΓ 3 rfl ?_
            refine eo_u (Nat.le_of_ble_eq_true rfl) (opu_insert hΓ (kv := (kI .u8)) (agg := false) (enc := eB) (id := 2) (mSet ([] : List (Int × Bool)) 98 ((s.By : Str) == [])) 110 ((s.Node : Str) == []) rfl rfl rfl (key_int .u8) rfl rfl rfl rfl rfl) ?_
            refine eo_hp [.box 37 [I s.At, S s.Server, I s.No, I s.Kind, S s.By, S s.Node, S s.Join, S s.Public, S s.Name, .d (Sl eS s.Tags), I s.Until, I s.Uses, B s.Ready], .dead, mOb (kI .u8) false eB (mSet (mSet ([] : List (Int × Bool)) 98 ((s.By : Str) == [])) 110 ((s.Node : Str) == []))] rfl ?_
            refine go_ops hΓ 3 rfl ?_
            refine eo_u (Nat.le_of_ble_eq_true rfl) (opu_insert hΓ (kv := (kI .u8)) (agg := false) (enc := eB) (id := 2) (mSet (mSet ([] : List (Int × Bool)) 98 ((s.By : Str) == [])) 110 ((s.Node : Str) == [])) 106 ((s.Join : Str) == []) rfl rfl rfl (key_int .u8) rfl rfl rfl rfl rfl) ?_
            refine eo_hp [.box 37 [I s.At, S s.Server, I s.No, I s.Kind, S s.By, S s.Node, S s.Join, S s.Public, S s.Name, .d (Sl eS s.Tags), I s.Until, I s.Uses, B s.Ready], .dead, mOb (kI .u8) false eB (mSet (mSet (mSet ([] : List (Int × Bool)) 98 ((s.By : Str) == [])) 110 ((s.Node : Str) == [])) 106 ((s.Join : Str) == []))] rfl ?_
            refine go_ops hΓ 3 rfl ?_
            refine eo_u (Nat.le_of_ble_eq_true rfl) (opu_insert hΓ (kv := (kI .u8)) (agg := false) (enc := eB) (id := 2) (mSet (mSet (mSet ([] : List (Int × Bool)) 98 ((s.By : Str) == [])) 110 ((s.Node : Str) == [])) 106 ((s.Join : Str) == [])) 112 ((s.Public : Str) == []) rfl rfl rfl (key_int .u8) rfl rfl rfl rfl rfl) ?_
            refine eo_hp [.box 37 [I s.At, S s.Server, I s.No, I s.Kind, S s.By, S s.Node, S s.Join, S s.Public, S s.Name, .d (Sl eS s.Tags), I s.Until, I s.Uses, B s.Ready], .dead, mOb (kI .u8) false eB (mSet (mSet (mSet (mSet ([] : List (Int × Bool)) 98 ((s.By : Str) == [])) 110 ((s.Node : Str) == [])) 106 ((s.Join : Str) == [])) 112 ((s.Public : Str) == []))] rfl ?_
            refine go_ops hΓ 3 rfl ?_
            refine eo_u (Nat.le_of_ble_eq_true rfl) (opu_insert hΓ (kv := (kI .u8)) (agg := false) (enc := eB) (id := 2) (mSet (mSet (mSet (mSet ([] : List (Int × Bool)) 98 ((s.By : Str) == [])) 110 ((s.Node : Str) == [])) 106 ((s.Join : Str) == [])) 112 ((s.Public : Str) == [])) 109 ((s.Name : Str) == []) rfl rfl rfl (key_int .u8) rfl rfl rfl rfl rfl) ?_
            refine eo_hp [.box 37 [I s.At, S s.Server, I s.No, I s.Kind, S s.By, S s.Node, S s.Join, S s.Public, S s.Name, .d (Sl eS s.Tags), I s.Until, I s.Uses, B s.Ready], .dead, mOb (kI .u8) false eB (mSet (mSet (mSet (mSet (mSet ([] : List (Int × Bool)) 98 ((s.By : Str) == [])) 110 ((s.Node : Str) == [])) 106 ((s.Join : Str) == [])) 112 ((s.Public : Str) == [])) 109 ((s.Name : Str) == []))] rfl ?_
            refine go_ops hΓ 4 rfl ?_
            refine eo_u (Nat.le_of_ble_eq_true rfl) (opu_insert hΓ (kv := (kI .u8)) (agg := false) (enc := eB) (id := 2) (mSet (mSet (mSet (mSet (mSet ([] : List (Int × Bool)) 98 ((s.By : Str) == [])) 110 ((s.Node : Str) == [])) 106 ((s.Join : Str) == [])) 112 ((s.Public : Str) == [])) 109 ((s.Name : Str) == [])) 116 (((s.Tags.length : Int) : Int) == 0) rfl rfl rfl (key_int .u8) rfl rfl rfl rfl rfl) ?_
            refine eo_hp [.box 37 [I s.At, S s.Server, I s.No, I s.Kind, S s.By, S s.Node, S s.Join, S s.Public, S s.Name, .d (Sl eS s.Tags), I s.Until, I s.Uses, B s.Ready], .dead, mOb (kI .u8) false eB (mSet (mSet (mSet (mSet (mSet (mSet ([] : List (Int × Bool)) 98 ((s.By : Str) == [])) 110 ((s.Node : Str) == [])) 106 ((s.Join : Str) == [])) 112 ((s.Public : Str) == [])) 109 ((s.Name : Str) == [])) 116 (((s.Tags.length : Int) : Int) == 0))] rfl ?_
            refine go_ops hΓ 3 rfl ?_
            refine eo_u (Nat.le_of_ble_eq_true rfl) (opu_insert hΓ (kv := (kI .u8)) (agg := false) (enc := eB) (id := 2) (mSet (mSet (mSet (mSet (mSet (mSet ([] : List (Int × Bool)) 98 ((s.By : Str) == [])) 110 ((s.Node : Str) == [])) 106 ((s.Join : Str) == [])) 112 ((s.Public : Str) == [])) 109 ((s.Name : Str) == [])) 116 (((s.Tags.length : Int) : Int) == 0)) 117 ((s.Until : Int) == 0) rfl rfl rfl (key_int .u8) rfl rfl rfl rfl rfl) ?_
            refine eo_hp [.box 37 [I s.At, S s.Server, I s.No, I s.Kind, S s.By, S s.Node, S s.Join, S s.Public, S s.Name, .d (Sl eS s.Tags), I s.Until, I s.Uses, B s.Ready], .dead, mOb (kI .u8) false eB (mSet (mSet (mSet (mSet (mSet (mSet (mSet ([] : List (Int × Bool)) 98 ((s.By : Str) == [])) 110 ((s.Node : Str) == [])) 106 ((s.Join : Str) == [])) 112 ((s.Public : Str) == [])) 109 ((s.Name : Str) == [])) 116 (((s.Tags.length : Int) : Int) == 0)) 117 ((s.Until : Int) == 0))] rfl ?_
            refine go_ops hΓ 3 rfl ?_
            refine eo_u (Nat.le_of_ble_eq_true rfl) (opu_insert hΓ (kv := (kI .u8)) (agg := false) (enc := eB) (id := 2) (mSet (mSet (mSet (mSet (mSet (mSet (mSet ([] : List (Int × Bool)) 98 ((s.By : Str) == [])) 110 ((s.Node : Str) == [])) 106 ((s.Join : Str) == [])) 112 ((s.Public : Str) == [])) 109 ((s.Name : Str) == [])) 116 (((s.Tags.length : Int) : Int) == 0)) 117 ((s.Until : Int) == 0)) 115 ((s.Uses : Int) == 0) rfl rfl rfl (key_int .u8) rfl rfl rfl rfl rfl) ?_
            refine eo_hp [.box 37 [I s.At, S s.Server, I s.No, I s.Kind, S s.By, S s.Node, S s.Join, S s.Public, S s.Name, .d (Sl eS s.Tags), I s.Until, I s.Uses, B s.Ready], .dead, mOb (kI .u8) false eB (mSet (mSet (mSet (mSet (mSet (mSet (mSet (mSet ([] : List (Int × Bool)) 98 ((s.By : Str) == [])) 110 ((s.Node : Str) == [])) 106 ((s.Join : Str) == [])) 112 ((s.Public : Str) == [])) 109 ((s.Name : Str) == [])) 116 (((s.Tags.length : Int) : Int) == 0)) 117 ((s.Until : Int) == 0)) 115 ((s.Uses : Int) == 0))] rfl ?_
            refine go_ops hΓ 3 rfl ?_
            refine eo_u (Nat.le_of_ble_eq_true rfl) (opu_insert hΓ (kv := (kI .u8)) (agg := false) (enc := eB) (id := 2) (mSet (mSet (mSet (mSet (mSet (mSet (mSet (mSet ([] : List (Int × Bool)) 98 ((s.By : Str) == [])) 110 ((s.Node : Str) == [])) 106 ((s.Join : Str) == [])) 112 ((s.Public : Str) == [])) 109 ((s.Name : Str) == [])) 116 (((s.Tags.length : Int) : Int) == 0)) 117 ((s.Until : Int) == 0)) 115 ((s.Uses : Int) == 0)) 114 (!s.Ready) rfl rfl rfl (key_int .u8) rfl rfl rfl rfl rfl) ?_
            refine eo_hp [.box 37 [I s.At, S s.Server, I s.No, I s.Kind, S s.By, S s.Node, S s.Join, S s.Public, S s.Name, .d (Sl eS s.Tags), I s.Until, I s.Uses, B s.Ready], .dead, mOb (kI .u8) false eB (mSet (mSet (mSet (mSet (mSet (mSet (mSet (mSet (mSet ([] : List (Int × Bool)) 98 ((s.By : Str) == [])) 110 ((s.Node : Str) == [])) 106 ((s.Join : Str) == [])) 112 ((s.Public : Str) == [])) 109 ((s.Name : Str) == [])) 116 (((s.Tags.length : Int) : Int) == 0)) 117 ((s.Until : Int) == 0)) 115 ((s.Uses : Int) == 0)) 114 (!s.Ready))] rfl ?_
            refine go_ops hΓ 8 rfl ?_
            refine eo_range hΓ (kv := (kI .u8)) (agg := false) (enc := eB) (mSet (mSet (mSet (mSet (mSet (mSet (mSet (mSet (mSet ([] : List (Int × Bool)) 98 ((s.By : Str) == [])) 110 ((s.Node : Str) == [])) 106 ((s.Join : Str) == [])) 112 ((s.Public : Str) == [])) 109 ((s.Name : Str) == [])) 116 (((s.Tags.length : Int) : Int) == 0)) 117 ((s.Until : Int) == 0)) 115 ((s.Uses : Int) == 0)) 114 (!s.Ready)) rfl rfl rfl rfl rfl (Nat.le_of_ble_eq_true rfl) (fun mr34 bs35 cl36 hpm37 hbl38 hbn39 => ?_)
            refine eo_hp [.box 37 [I s.At, S s.Server, I s.No, I s.Kind, S s.By, S s.Node, S s.Join, S s.Public, S s.Name, .d (Sl eS s.Tags), I s.Until, I s.Uses, B s.Ready], .dead, mObS (kI .u8) false eB (mSet (mSet (mSet (mSet (mSet (mSet (mSet (mSet (mSet ([] : List (Int × Bool)) 98 ((s.By : Str) == [])) 110 ((s.Node : Str) == [])) 106 ((s.Join : Str) == [])) 112 ((s.Public : Str) == [])) 109 ((s.Name : Str) == [])) 116 (((s.Tags.length : Int) : Int) == 0)) 117 ((s.Until : Int) == 0)) 115 ((s.Uses : Int) == 0)) 114 (!s.Ready)) (rawM (kI .u8) eB mr34 bs35 cl36), .iter 2 cl36 []] rfl ?_
            refine go_ops hΓ 2 rfl ?_
            obtain ⟨q45, hq45, h46⟩ := bi_ok h33
            refine go hΓ 1 rfl ?_
            refine j_rangePM hq45 hpm37 hbl38 hbn39 (fun s40 => [(6, S y32), (78, .ptr 3 0)]) (fun sn42 s40 => [.box 37 [I s.At, S s.Server, I s.No, I s.Kind, S s.By, S s.Node, S s.Join, S s.Public, S s.Name, .d (Sl eS s.Tags), I s.Until, I s.Uses, B s.Ready], .dead, mObS (kI .u8) false eB (mSet (mSet (mSet (mSet (mSet (mSet (mSet (mSet (mSet ([] : List (Int × Bool)) 98 ((s.By : Str) == [])) 110 ((s.Node : Str) == [])) 106 ((s.Join : Str) == [])) 112 ((s.Public : Str) == [])) 109 ((s.Name : Str) == [])) 116 (((s.Tags.length : Int) : Int) == 0)) 117 ((s.Until : Int) == 0)) 115 ((s.Uses : Int) == 0)) 114 (!s.Ready)) (rawM (kI .u8) eB mr34 bs35 cl36), .iter 2 cl36 sn42]) ⟨⟨rfl, rfl, trivial⟩, [], rfl, .inl rfl⟩ (fun sn42 s40 hdone47 hstep48 => ?_)
            refine go hΓ 2 rfl ?_
            refine eo_next (kv := (kI .u8)) (agg := false) (enc := eB) (mSet (mSet (mSet (mSet (mSet (mSet (mSet (mSet (mSet ([] : List (Int × Bool)) 98 ((s.By : Str) == [])) 110 ((s.Node : Str) == [])) 106 ((s.Join : Str) == [])) 112 ((s.Public : Str) == [])) 109 ((s.Name : Str) == [])) 116 (((s.Tags.length : Int) : Int) == 0)) 117 ((s.Until : Int) == 0)) 115 ((s.Uses : Int) == 0)) 114 (!s.Ready)) mr34 bs35 cl36 sn42 [.box 37 [I s.At, S s.Server, I s.No, I s.Kind, S s.By, S s.Node, S s.Join, S s.Public, S s.Name, .d (Sl eS s.Tags), I s.Until, I s.Uses, B s.Ready], .dead, mOb (kI .u8) false eB (mSet (mSet (mSet (mSet (mSet (mSet (mSet (mSet (mSet ([] : List (Int × Bool)) 98 ((s.By : Str) == [])) 110 ((s.Node : Str) == [])) 106 ((s.Join : Str) == [])) 112 ((s.Public : Str) == [])) 109 ((s.Name : Str) == [])) 116 (((s.Tags.length : Int) : Int) == 0)) 117 ((s.Until : Int) == 0)) 115 ((s.Uses : Int) == 0)) 114 (!s.Ready)), .dead] rfl rfl rfl rfl rfl (Nat.le_of_ble_eq_true rfl) (fun hdsn42 => ?_) (fun j43 x41 b44 hjsn42 hbsn42 hnsn42 => ?_)
            · have hqsn42 := hdone47 hdsn42
              subst hqsn42
              replace h46 := goI_l h46
              refine go_ops hΓ 16 rfl ?_
              obtain rfl := Option.some.inj h46
              exact fin_pure hΓ (.inr rfl) rfl rfl
            · obtain ⟨s49, h50, houtsn42⟩ := hstep48 j43 x41 b44 hjsn42 hbsn42 hnsn42
              have hssn42 := h50
              refine go_ops hΓ 10 rfl ?_
              refine eo_o rfl (op_entry (kv := (kI .u8)) (agg := false) (enc := eB) (mSet (mSet (mSet (mSet (mSet (mSet (mSet (mSet (mSet ([] : List (Int × Bool)) 98 ((s.By : Str) == [])) 110 ((s.Node : Str) == [])) 106 ((s.Join : Str) == [])) 112 ((s.Public : Str) == [])) 109 ((s.Name : Str) == [])) 116 (((s.Tags.length : Int) : Int) == 0)) 117 ((s.Until : Int) == 0)) 115 ((s.Uses : Int) == 0)) 114 (!s.Ready)) mr34 bs35 cl36 sn42 hjsn42 hbsn42 rfl rfl rfl rfl (fun _ => rfl)) ?_
              refine go_ops hΓ 11 rfl ?_
              obtain ⟨q51, hq51, h52⟩ := bi_ok h50
              refine o_cut 5 [(6, S y32), (78, .ptr 3 0), (91, B q51)] [.box 37 [I s.At, S s.Server, I s.No, I s.Kind, S s.By, S s.Node, S s.Join, S s.Public, S s.Name, .d (Sl eS s.Tags), I s.Until, I s.Uses, B s.Ready], .dead, mObS (kI .u8) false eB (mSet (mSet (mSet (mSet (mSet (mSet (mSet (mSet (mSet ([] : List (Int × Bool)) 98 ((s.By : Str) == [])) 110 ((s.Node : Str) == [])) 106 ((s.Join : Str) == [])) 112 ((s.Public : Str) == [])) 109 ((s.Name : Str) == [])) 116 (((s.Tags.length : Int) : Int) == 0)) 117 ((s.Until : Int) == 0)) 115 ((s.Uses : Int) == 0)) 114 (!s.Ready)) (rawM (kI .u8) eB mr34 bs35 cl36), .iter 2 cl36 (sn42 ++ [b44])] ?_ ?_
              · refine eo_gsplit rfl rfl (fun hb => ?_) (fun hb => ?_)
                · have h53 := cT hq51 hb
                  obtain ⟨y54, hy54, h55⟩ := bi_ok h53
                  refine go_ops hΓ 2 rfl ?_
                  refine eo_guard rfl ?_
                  refine eo_callP (callable Tryz.func201 rfl rfl) (c_strings_IndexByte hy54) rfl (Nat.le_of_ble_eq_true rfl) rfl rfl rfl rfl rfl ?_
                  refine go_ops hΓ 3 rfl ?_
                  obtain rfl := Option.some.inj h55
                  exact ⟨⟨rfl, rfl, rfl, trivial⟩, [], rfl, .inl rfl⟩
                · have h56 := cF hq51 hb
                  refine go_ops hΓ 6 rfl ?_
                  obtain rfl := Option.some.inj h56
                  exact ⟨⟨rfl, rfl, rfl, trivial⟩, [], rfl, .inl rfl⟩
              · refine go_ops hΓ 2 rfl ?_
                refine j_cond rfl (fun hb => ?_) (fun hb => ?_)
                · have h57 := cT h52 hb
                  refine go hΓ 7 rfl ?_
                  obtain ⟨v58, hv58, h59⟩ := bi_ok h57
                  obtain rfl := Option.some.inj h59
                  obtain rfl := houtsn42 _ rfl
                  obtain rfl := Option.some.inj h46
                  refine go hΓ 3 rfl ?_
                  obtain rfl := Option.some.inj hv58
                  exact fin_pure hΓ (.inr rfl) rfl rfl
                · have h60 := cF h52 hb
                  refine go hΓ 2 rfl ?_
                  obtain rfl := Option.some.inj h60
                  exact ⟨j43, x41, b44, _, hjsn42, hbsn42, hnsn42, hssn42, ⟨⟨rfl, rfl, trivial⟩, [], rfl, .inl rfl⟩⟩
          · obtain ⟨s61, h62, houtsn23⟩ := hstep29 x22 hjsn23
            have hssn23 := h62
            obtain ⟨y63, hy63, h64⟩ := bi_ok h62
            refine go_ops hΓ 18 rfl ?_
            refine eo_callP (callable Tryz.func199 rfl rfl) (c_laneref1_fieldFault hy63) rfl (Nat.le_of_ble_eq_true rfl) rfl rfl rfl rfl rfl ?_
            refine go_ops hΓ 9 rfl ?_
            refine j_cond rfl (fun hb => ?_) (fun hb => ?_)
            · have h65 := cT h64 hb
              refine go hΓ 8 rfl ?_
              obtain ⟨v66, hv66, h67⟩ := bi_ok h65
              obtain rfl := Option.some.inj h67
              obtain rfl := houtsn23 _ rfl
              obtain rfl := Option.some.inj h27
              refine go hΓ 3 rfl ?_
              obtain rfl := Option.some.inj hv66
              exact fin_pure hΓ (.inr rfl) rfl rfl
            · have h68 := cF h64 hb
              refine go hΓ 2 rfl ?_
              obtain rfl := Option.some.inj h68
              exact ⟨x22, _, hjsn23, hssn23, ⟨⟨rfl, rfl, trivial⟩, [], rfl, .inl rfl⟩⟩
theorem c_laneref1_StepsFault_1 {x : T_api_Step} {x2 : T_api_Step} {r : Bool} (h : m_laneref1_StepsFault_1 x x2 = some r) : EC Tryz.prog 113 [.agg [I x.At, S x.Server, I x.No, I x.Kind, S x.By, S x.Node, S x.Join, S x.Public, S x.Name, .d (Sl eS x.Tags), I x.Until, I x.Uses, B x.Ready], .ptr 0 0] [.box 37 [I x2.At, S x2.Server, I x2.No, I x2.Kind, S x2.By, S x2.Node, S x2.Join, S x2.Public, S x2.Name, .d (Sl eS x2.Tags), I x2.Until, I x2.Uses, B x2.Ready]] fun g hp' => g = B r ∧ hp' = [.box 37 [I x2.At, S x2.Server, I x2.No, I x2.Kind, S x2.By, S x2.Node, S x2.Join, S x2.Public, S x2.Name, .d (Sl eS x2.Tags), I x2.Until, I x2.Uses, B x2.Ready]] := by
  refine ec_enter (Fr.of 0 _) Tryz.func113 rfl (Fr.of_ok _) (Nat.le_of_ble_eq_true rfl) fun _ => ?_
  refine go_in ?_
  unfold m_laneref1_StepsFault_1 at h
  refine go hΓ 2 rfl ?_
  refine eo_box rfl rfl rfl rfl (Nat.le_of_ble_eq_true rfl) ?_
  refine go_ops hΓ 11 rfl ?_
  refine o_cut 6 [(3, B false), (15, B (((x.Server : Str) == x2.Server) && ((x.No : Int) == x2.No)))] [.box 37 [I x2.At, S x2.Server, I x2.No, I x2.Kind, S x2.By, S x2.Node, S x2.Join, S x2.Public, S x2.Name, .d (Sl eS x2.Tags), I x2.Until, I x2.Uses, B x2.Ready], .box 37 [I x.At, S x.Server, I x.No, I x.Kind, S x.By, S x.Node, S x.Join, S x.Public, S x.Name, .d (Sl eS x.Tags), I x.Until, I x.Uses, B x.Ready]] ?_ ?_
  · refine eo_gsplit rfl rfl (fun hb => ?_) (fun hb => ?_)
    · refine go_ops hΓ 7 rfl ?_
      exact ⟨⟨rfl, get_b rfl (and_t hb), trivial⟩, [], rfl, .inl rfl⟩
    · refine go_ops hΓ 7 rfl ?_
      exact ⟨⟨rfl, get_b rfl (and_f hb), trivial⟩, [], rfl, .inl rfl⟩
  · refine go_ops hΓ 4 rfl ?_
    obtain rfl := Option.some.inj h
    exact fin_objs hΓ [_] (.inr rfl) rfl rfl rfl rfl (.inr ⟨HB.mk rfl, rfl⟩)
theorem c_slices_IndexFunc_api_Step_api_Step {s : List T_api_Step} {f : T_api_Step} {r : Int} (h : m_slices_IndexFunc_api_Step_api_Step s f = some r) : EC Tryz.prog 114 [.d (Sl e_api_Step s), .fn (.func 113) [] [.ptr 0 0]] [.box 37 [I f.At, S f.Server, I f.No, I f.Kind, S f.By, S f.Node, S f.Join, S f.Public, S f.Name, .d (Sl eS f.Tags), I f.Until, I f.Uses, B f.Ready]] fun g hp' => g = I r ∧ hp' = [.box 37 [I f.At, S f.Server, I f.No, I f.Kind, S f.By, S f.Node, S f.Join, S f.Public, S f.Name, .d (Sl eS f.Tags), I f.Until, I f.Uses, B f.Ready]] := by
  refine ec_enter (Fr.of 0 _) Tryz.func114 rfl (Fr.of_ok _) (Nat.le_of_ble_eq_true rfl) fun _ => ?_
  refine go_in ?_
  unfold m_slices_IndexFunc_api_Step_api_Step at h
  refine go hΓ 13 rfl ?_
  obtain ⟨q4, hq4, h5⟩ := bi_ok h
  refine j_bound 0 rfl fun hb7 => ?_
  refine j_cutEZ (R := fun a6 => q4 = .go a6) (fun a6 => []) (fun a6 => [.box 37 [I f.At, S f.Server, I f.No, I f.Kind, S f.By, S f.Node, S f.Join, S f.Public, S f.Name, .d (Sl eS f.Tags), I f.Until, I f.Uses, B f.Ready]]) ?_ ?_
  · refine go hΓ 1 rfl ?_
    refine j_range s hq4 (fun i1 s2 => [(0, .d (Sl e_api_Step s)), (1, .fn (.func 113) [] [.ptr 0 0]), (7, I (s.length : Int)), (8, I (i1 : Int))]) (fun s2 => [.box 37 [I f.At, S f.Server, I f.No, I f.Kind, S f.By, S f.Node, S f.Join, S f.Public, S f.Name, .d (Sl eS f.Tags), I f.Until, I f.Uses, B f.Ready]]) ⟨⟨rfl, rfl, rfl, rfl, trivial⟩, [], rfl, .inl rfl⟩ (fun i1 x3 s2 y11 hx8 hlt hy9 hout10 => ?_) (fun s2 hgo => ?_)
    · refine go hΓ 6 rfl ?_
      refine j_condT rfl (decide_eq_true (Int.ofNat_lt.2 hlt)) ?_
      refine go hΓ 15 rfl ?_
      refine eo_o rfl (op_elemZ hΓ (enc := e_api_Step) (getZ_nat hx8) rfl rfl rfl rfl rfl (fun _ => rfl)) ?_
      obtain ⟨y12, hy12, h13⟩ := bi_ok hy9
      refine go_ops hΓ 1 rfl ?_
      refine eo_callF [0] (B y12) [.box 37 [I f.At, S f.Server, I f.No, I f.Kind, S f.By, S f.Node, S f.Join, S f.Public, S f.Name, .d (Sl eS f.Tags), I f.Until, I f.Uses, B f.Ready]] (callable Tryz.func113 rfl rfl) (c_laneref1_StepsFault_1 hy12) rfl (Nat.le_of_ble_eq_true rfl) rfl rfl rfl rfl rfl rfl rfl rfl rfl rfl ?_
      refine go_ops hΓ 2 rfl ?_
      refine j_cond rfl (fun hb => ?_) (fun hb => ?_)
      · have h14 := cT h13 hb
        refine go hΓ 9 rfl ?_
        obtain ⟨v15, hv15, h16⟩ := bi_ok h14
        obtain rfl := Option.some.inj h16
        obtain rfl := hout10 _ rfl
        obtain rfl := Option.some.inj h5
        refine go hΓ 4 rfl ?_
        obtain rfl := Option.some.inj hv15
        exact fin_objs hΓ [] (.inr rfl) rfl rfl rfl rfl (.inl rfl)
      · have h17 := cF h13 hb
        refine go hΓ 7 rfl ?_
        obtain rfl := Option.some.inj h17
        exact ⟨_, rfl, ⟨⟨rfl, rfl, rfl, get_eq rfl (w64_succ (Nat.lt_of_lt_of_le hlt hb7)), trivial⟩, [], rfl, .inl rfl⟩⟩
    · subst hgo
      refine go hΓ 6 rfl ?_
      refine j_condF rfl (decide_eq_false (Int.lt_irrefl _)) ?_
      refine go hΓ 4 rfl ?_
      exact ⟨_, rfl, ⟨trivial, [], rfl, .inl rfl⟩⟩
  · intro a6 ha
    subst ha
    replace h5 := goI_l h5
    refine go hΓ 7 rfl ?_
    obtain rfl := Option.some.inj h5
    exact fin_objs hΓ [] (.inr rfl) rfl rfl rfl rfl (.inl rfl)
theorem c_slices_ContainsFunc_api_Step_api_Step {s : List T_api_Step} {f : T_api_Step} {r : Bool} (h : m_slices_ContainsFunc_api_Step_api_Step s f = some r) : EC Tryz.prog 90 [.d (Sl e_api_Step s), .fn (.func 113) [] [.ptr 0 0]] [.box 37 [I f.At, S f.Server, I f.No, I f.Kind, S f.By, S f.Node, S f.Join, S f.Public, S f.Name, .d (Sl eS f.Tags), I f.Until, I f.Uses, B f.Ready]] fun g hp' => g = B r ∧ hp' = [.box 37 [I f.At, S f.Server, I f.No, I f.Kind, S f.By, S f.Node, S f.Join, S f.Public, S f.Name, .d (Sl eS f.Tags), I f.Until, I f.Uses, B f.Ready]] := by
  refine ec_enter (Fr.of 0 _) Tryz.func90 rfl (Fr.of_ok _) (Nat.le_of_ble_eq_true rfl) fun _ => ?_
  refine go_in ?_
  unfold m_slices_ContainsFunc_api_Step_api_Step at h
  obtain ⟨y1, hy1, h2⟩ := bi_ok h
  refine go hΓ 9 rfl ?_
  refine eo_callF [0] (I y1) [.box 37 [I f.At, S f.Server, I f.No, I f.Kind, S f.By, S f.Node, S f.Join, S f.Public, S f.Name, .d (Sl eS f.Tags), I f.Until, I f.Uses, B f.Ready]] (callable Tryz.func114 rfl rfl) (c_slices_IndexFunc_api_Step_api_Step hy1) rfl (Nat.le_of_ble_eq_true rfl) rfl rfl rfl rfl rfl rfl rfl rfl rfl rfl ?_
  refine go_ops hΓ 5 rfl ?_
  obtain rfl := Option.some.inj h2
  exact fin_objs hΓ [] (.inr rfl) rfl rfl rfl rfl (.inl rfl)
set_option maxHeartbeats 8000000 in
theorem c_laneref1_StepsFault {l : List T_api_Step} {r : Int} (h : m_laneref1_StepsFault l = some r) : Pure Tryz.prog 32 [.d (Sl e_api_Step l)] (I r) := by
  refine Pure.enter (Fr.of 0 _) Tryz.func32 rfl (Fr.of_ok _) rfl rfl ?_
  refine go_in ?_
  unfold m_laneref1_StepsFault at h
  refine go hΓ 13 rfl ?_
  refine j_cond rfl (fun hb => ?_) (fun hb => ?_)
  · have h1 := cT h hb
    refine go hΓ 7 rfl ?_
    obtain rfl := Option.some.inj h1
    exact fin_pure hΓ (.inr rfl) rfl rfl
  · have h2 := cF h hb
    refine go hΓ 10 rfl ?_
    obtain ⟨q6, hq6, h7⟩ := bi_ok h2
    refine j_bound 0 rfl fun hb9 => ?_
    refine j_cutEZ (R := fun a8 => q6 = .go a8) (fun a8 => []) (fun a8 => []) ?_ ?_
    · refine go hΓ 1 rfl ?_
      refine j_range l hq6 (fun i3 s4 => [(0, .d (Sl e_api_Step l)), (9, .d (Sl e_api_Step l)), (10, I (l.length : Int)), (11, I (i3 : Int))]) (fun s4 => []) ⟨⟨rfl, rfl, rfl, rfl, trivial⟩, [], rfl, .inl rfl⟩ (fun i3 x5 s4 y13 hx10 hlt hy11 hout12 => ?_) (fun s4 hgo => ?_)
      · refine go hΓ 6 rfl ?_
        refine j_condT rfl (decide_eq_true (Int.ofNat_lt.2 hlt)) ?_
        refine go hΓ 7 rfl ?_
        refine eo_o rfl (op_elemZ hΓ (enc := e_api_Step) (getZ_nat hx10) rfl rfl rfl rfl rfl (fun _ => rfl)) ?_
        refine go_ops hΓ 1 rfl ?_
        refine eo_alloc hΓ rfl rfl rfl (Nat.le_of_ble_eq_true rfl) ?_
        refine go_ops hΓ 1 rfl ?_
        refine eo_store hΓ rfl rfl rfl rfl rfl rfl rfl rfl (Nat.le_of_ble_eq_true rfl) ?_
        refine eo_hp [.box 37 [I x5.At, S x5.Server, I x5.No, I x5.Kind, S x5.By, S x5.Node, S x5.Join, S x5.Public, S x5.Name, .d (Sl eS x5.Tags), I x5.Until, I x5.Uses, B x5.Ready]] rfl ?_
        obtain ⟨y14, hy14, h15⟩ := bi_ok hy11
        refine go_ops hΓ 6 rfl ?_
        refine eo_callP (callable Tryz.func95 rfl rfl) (c_laneref1_stepFault hy14) rfl (Nat.le_of_ble_eq_true rfl) rfl rfl rfl rfl rfl ?_
        refine go_ops hΓ 9 rfl ?_
        refine j_cond rfl (fun hb => ?_) (fun hb => ?_)
        · have h16 := cT h15 hb
          refine go hΓ 10 rfl ?_
          obtain ⟨v17, hv17, h18⟩ := bi_ok h16
          obtain rfl := Option.some.inj h18
          obtain rfl := hout12 _ rfl
          obtain rfl := Option.some.inj h7
          refine go hΓ 4 rfl ?_
          obtain rfl := Option.some.inj hv17
          exact fin_pure hΓ (.inr rfl) rfl rfl
        · have h19 := cF h15 hb
          obtain ⟨q20, hq20, h21⟩ := bi_ok h19
          refine go hΓ 4 rfl ?_
          refine j_cutNZ [(0, .d (Sl e_api_Step l)), (3, I (i3 : Int)), (4, .ptr 0 0), (9, .d (Sl e_api_Step l)), (10, I (l.length : Int)), (11, I (i3 : Int)), (32, B q20)] [.box 37 [I x5.At, S x5.Server, I x5.No, I x5.Kind, S x5.By, S x5.Node, S x5.Join, S x5.Public, S x5.Name, .d (Sl eS x5.Tags), I x5.Until, I x5.Uses, B x5.Ready]] ?_ ?_
          · refine j_draw hmix (by kernel_rfl) ?_
            refine go hΓ 3 rfl ?_
            refine gl_gsplit rfl rfl (fun hb => ?_) (fun hb => ?_)
            · have h22 := cT hq20 hb
              obtain ⟨x23, hx23, h24⟩ := bi_ok h22
              refine go_draw hΓ 3 rfl ?_
              refine gl_og rfl rfl (op_elemZ hΓ (enc := e_api_Step) hx23 rfl rfl rfl rfl rfl (fun _ => rfl)) ?_
              obtain ⟨y25, hy25, h26⟩ := bi_ok h24
              refine go_draw hΓ 2 rfl ?_
              refine gl_callPg (callable Tryz.func96 rfl rfl) (c_laneref1_StepOrder hy25) rfl rfl rfl rfl rfl rfl rfl ?_
              refine go_draw hΓ 3 rfl ?_
              obtain rfl := Option.some.inj h26
              exact ⟨⟨rfl, rfl, rfl, rfl, rfl, rfl, rfl, trivial⟩, [], rfl, .inl rfl⟩
            · have h27 := cF hq20 hb
              refine go_draw hΓ 10 rfl ?_
              obtain rfl := Option.some.inj h27
              exact ⟨⟨rfl, rfl, rfl, rfl, rfl, rfl, rfl, trivial⟩, [], rfl, .inl rfl⟩
          · refine go hΓ 1 rfl ?_
            refine j_cond rfl (fun hb => ?_) (fun hb => ?_)
            · have h28 := cT h21 hb
              refine go hΓ 9 rfl ?_
              obtain ⟨v29, hv29, h30⟩ := bi_ok h28
              obtain rfl := Option.some.inj h30
              obtain rfl := hout12 _ rfl
              obtain rfl := Option.some.inj h7
              refine go hΓ 4 rfl ?_
              obtain rfl := Option.some.inj hv29
              exact fin_pure hΓ (.inr rfl) rfl rfl
            · have h31 := cF h21 hb
              obtain ⟨z32, hz32, h33⟩ := bi_ok h31
              refine go hΓ 6 rfl ?_
              refine eo_o rfl (op_subRoZ hΓ (enc := e_api_Step) hz32 rfl rfl rfl rfl rfl rfl (fun _ => rfl)) ?_
              obtain ⟨y34, hy34, h35⟩ := bi_ok h33
              refine go_ops hΓ 1 rfl ?_
              refine eo_callF [0] (B y34) [.box 37 [I x5.At, S x5.Server, I x5.No, I x5.Kind, S x5.By, S x5.Node, S x5.Join, S x5.Public, S x5.Name, .d (Sl eS x5.Tags), I x5.Until, I x5.Uses, B x5.Ready]] (callable Tryz.func90 rfl rfl) (c_slices_ContainsFunc_api_Step_api_Step hy34) rfl (Nat.le_of_ble_eq_true rfl) rfl rfl rfl rfl rfl rfl rfl rfl rfl rfl ?_
              refine go_ops hΓ 2 rfl ?_
              refine j_cond rfl (fun hb => ?_) (fun hb => ?_)
              · have h36 := cT h35 hb
                refine go hΓ 8 rfl ?_
                obtain ⟨v37, hv37, h38⟩ := bi_ok h36
                obtain rfl := Option.some.inj h38
                obtain rfl := hout12 _ rfl
                obtain rfl := Option.some.inj h7
                refine go hΓ 4 rfl ?_
                obtain rfl := Option.some.inj hv37
                exact fin_pure hΓ (.inr rfl) rfl rfl
              · have h39 := cF h35 hb
                refine go hΓ 7 rfl ?_
                obtain rfl := Option.some.inj h39
                exact ⟨_, rfl, ⟨⟨rfl, rfl, rfl, get_eq rfl (w64_succ (Nat.lt_of_lt_of_le hlt hb9)), trivial⟩, [_], rfl, .inr ⟨HB.mk rfl, FB.mk rfl, (Nat.le_of_ble_eq_true rfl)⟩⟩⟩
      · subst hgo
        refine go hΓ 6 rfl ?_
        refine j_condF rfl (decide_eq_false (Int.lt_irrefl _)) ?_
        refine go hΓ 4 rfl ?_
        exact ⟨_, rfl, ⟨trivial, [], rfl, .inl rfl⟩⟩
    · intro a8 ha
      subst ha
      replace h7 := goI_l h7
      refine go hΓ 7 rfl ?_
      obtain rfl := Option.some.inj h7
      exact fin_pure hΓ (.inr rfl) rfl rfl
theorem c_cmp_Or_api_Errno {vals : List Int} {r : Int} (h : m_cmp_Or_api_Errno vals = some r) : Pure Tryz.prog 34 [.d (Sl (eN .i64) vals)] (I r) := by
  refine Pure.enter (Fr.of 0 _) Tryz.func34 rfl (Fr.of_ok _) rfl rfl ?_
  refine go_in ?_
  unfold m_cmp_Or_api_Errno at h
  refine go hΓ 18 rfl ?_
  obtain ⟨q4, hq4, h5⟩ := bi_ok h
  refine j_bound 6 rfl fun hb7 => ?_
  refine j_cutEZ (R := fun a6 => q4 = .go a6) (fun a6 => [(3, I 0)]) (fun a6 => []) ?_ ?_
  · refine go hΓ 1 rfl ?_
    refine j_range vals hq4 (fun i1 s2 => [(3, I 0), (6, .d (Sl (eN .i64) vals)), (7, I (vals.length : Int)), (8, I (i1 : Int))]) (fun s2 => []) ⟨⟨rfl, rfl, rfl, rfl, trivial⟩, [], rfl, .inl rfl⟩ (fun i1 x3 s2 y11 hx8 hlt hy9 hout10 => ?_) (fun s2 hgo => ?_)
    · refine go hΓ 6 rfl ?_
      refine j_condT rfl (decide_eq_true (Int.ofNat_lt.2 hlt)) ?_
      refine go hΓ 6 rfl ?_
      refine eo_o rfl (op_elemZ hΓ (enc := (eN .i64)) (getZ_nat hx8) rfl rfl rfl rfl rfl (fun _ => rfl)) ?_
      refine go_ops hΓ 11 rfl ?_
      refine j_cond rfl (fun hb => ?_) (fun hb => ?_)
      · have h12 := cT hy9 hb
        refine go hΓ 9 rfl ?_
        obtain ⟨v13, hv13, h14⟩ := bi_ok h12
        obtain rfl := Option.some.inj h14
        obtain rfl := hout10 _ rfl
        obtain rfl := Option.some.inj h5
        refine go hΓ 4 rfl ?_
        obtain rfl := Option.some.inj hv13
        exact fin_pure hΓ (.inr rfl) rfl rfl
      · have h15 := cF hy9 hb
        refine go hΓ 7 rfl ?_
        obtain rfl := Option.some.inj h15
        exact ⟨_, rfl, ⟨⟨rfl, rfl, rfl, get_eq rfl (w64_succ (Nat.lt_of_lt_of_le hlt hb7)), trivial⟩, [], rfl, .inl rfl⟩⟩
    · subst hgo
      refine go hΓ 6 rfl ?_
      refine j_condF rfl (decide_eq_false (Int.lt_irrefl _)) ?_
      refine go hΓ 4 rfl ?_
      exact ⟨_, rfl, ⟨⟨rfl, trivial⟩, [], rfl, .inl rfl⟩⟩
  · intro a6 ha
    subst ha
    replace h5 := goI_l h5
    refine go hΓ 8 rfl ?_
    obtain rfl := Option.some.inj h5
    exact fin_pure hΓ (.inr rfl) rfl rfl
theorem c_lanelaw1_yardOf {k : Nat} {s : T_lanemake_Stream} {many : Int} {r : T_lanelaw1_yard × T_lanemake_Stream} (h : m_lanelaw1_yardOf k s many = some r) : EC Tryz.prog 10 [.ptr 0 0, I many] [.box 25 [.d (Sl (eN .i64) s.L), I s.v_at]] fun g hp' => g = .agg [.d (Sl eS r.1.d.Users), .d (Sl e_api_Owner r.1.d.Owners), I r.1.d.Life, B r.1.d.Approve, .d (Sl e_api_Step r.1.l), I r.1.fault] ∧ hp' = [.box 25 [.d (Sl (eN .i64) r.2.L), I r.2.v_at]] := by
  refine ec_enter (Fr.of 0 _) Tryz.func10 rfl (Fr.of_ok _) (Nat.le_of_ble_eq_true rfl) fun _ => ?_
  refine go_in ?_
  unfold m_lanelaw1_yardOf at h
  refine go hΓ 2 rfl ?_
  refine eo_alloc hΓ rfl rfl rfl (Nat.le_of_ble_eq_true rfl) ?_
  obtain ⟨y1, hy1, h2⟩ := bi_ok h
  refine go_ops hΓ 5 rfl ?_
  refine eo_callF [0] (.agg [.d (Sl eS y1.1.Users), .d (Sl e_api_Owner y1.1.Owners), I y1.1.Life, B y1.1.Approve]) [.box 25 [.d (Sl (eN .i64) y1.2.L), I y1.2.v_at], .box 33 [.d (Sl eS []), .d (Sl e_api_Owner []), I 0, B false, .d (Sl e_api_Step []), I 0]] (callable Tryz.func83 rfl rfl) (c_lanemake_Stream_Directory hy1) rfl (Nat.le_of_ble_eq_true rfl) rfl rfl rfl rfl rfl rfl rfl rfl rfl rfl ?_
  obtain ⟨y3, hy3, h4⟩ := bi_ok h2
  refine go_ops hΓ 2 rfl ?_
  refine eo_callF [0] (.sl 2 y3.1.length) [.box 25 [.d (Sl (eN .i64) y3.2.L), I y3.2.v_at], .box 33 [.d (Sl eS []), .d (Sl e_api_Owner []), I 0, B false, .d (Sl e_api_Step []), I 0], .row 37 13 y3.1.length (y3.1.flatMap e_api_Step)] (callable Tryz.func23 rfl rfl) (c_lanemake_Stream_Steps hy3) rfl (Nat.le_of_ble_eq_true rfl) rfl rfl rfl rfl rfl rfl rfl rfl rfl rfl ?_
  refine eo_shr 2 [10] _ [.box 25 [.d (Sl (eN .i64) y3.2.L), I y3.2.v_at], .box 33 [.d (Sl eS []), .d (Sl e_api_Owner []), I 0, B false, .d (Sl e_api_Step []), I 0], .dead] rfl rfl rfl (Nat.le_of_ble_eq_true rfl) ?_
  refine eo_build hΓ (gs := [.d (Sl eS y1.1.Users), .d (Sl e_api_Owner y1.1.Owners), I y1.1.Life, B y1.1.Approve, .d (Sl e_api_Step y3.1), I 0]) rfl rfl rfl rfl rfl rfl rfl ?_
  refine eo_alloc hΓ rfl rfl rfl (Nat.le_of_ble_eq_true rfl) ?_
  refine eo_store hΓ rfl rfl rfl rfl rfl rfl rfl rfl (Nat.le_of_ble_eq_true rfl) ?_
  refine eo_hp [.box 25 [.d (Sl (eN .i64) y3.2.L), I y3.2.v_at], .box 33 [.d (Sl eS []), .d (Sl e_api_Owner []), I 0, B false, .d (Sl e_api_Step []), I 0], .dead, .box 33 [.d (Sl eS y1.1.Users), .d (Sl e_api_Owner y1.1.Owners), I y1.1.Life, B y1.1.Approve, .d (Sl e_api_Step y3.1), I 0]] rfl ?_
  refine go_ops hΓ 3 rfl ?_
  refine j_drawE [.dead, .dead, .dead, .box 33 [.d (Sl eS y1.1.Users), .d (Sl e_api_Owner y1.1.Owners), I y1.1.Life, B y1.1.Approve, .d (Sl e_api_Step y3.1), I 0]] [1, 4] [9] [9] hmix (by kernel_rfl) (by kernel_rfl) ⟨rfl, trivial⟩ (Nat.le_of_ble_eq_true rfl) ?_
  obtain ⟨y5, hy5, h6⟩ := bi_ok h4
  refine go_E hΓ 2 rfl ?_
  refine ge_callP (callable Tryz.func28 rfl rfl) (c_laneref1_DirectoryFault hy5) rfl rfl rfl rfl rfl rfl ?_
  obtain ⟨y7, hy7, h8⟩ := bi_ok h6
  refine go_E hΓ 2 rfl ?_
  refine ge_callP (callable Tryz.func32 rfl rfl) (c_laneref1_StepsFault hy7) rfl rfl rfl rfl rfl rfl ?_
  refine ge_litT hΓ (enc := (eN .i64)) [y5, y7] rfl rfl rfl rfl rfl rfl rfl rfl rfl rfl rfl rfl ?_
  obtain ⟨y9, hy9, h10⟩ := bi_ok h8
  refine ge_callP (callable Tryz.func34 rfl rfl) (c_cmp_Or_api_Errno hy9) rfl rfl rfl rfl rfl rfl ?_
  refine go_E hΓ 1 rfl ?_
  refine ge_h0 [.box 25 [.d (Sl (eN .i64) y3.2.L), I y3.2.v_at], .box 33 [.d (Sl eS []), .d (Sl e_api_Owner []), I 0, B false, .d (Sl e_api_Step []), I 0], .dead, .box 33 [.d (Sl eS y1.1.Users), .d (Sl e_api_Owner y1.1.Owners), I y1.1.Life, B y1.1.Approve, .d (Sl e_api_Step y3.1), I y9]] rfl rfl (brk_st rfl) (qte_u (opu_store2 hΓ rfl rfl rfl rfl rfl rfl rfl rfl rfl)) ?_
  refine ge_fin ?_
  refine go hΓ 4 rfl ?_
  refine eo_store hΓ rfl rfl rfl rfl rfl rfl rfl rfl (Nat.le_of_ble_eq_true rfl) ?_
  refine eo_hp [.box 25 [.d (Sl (eN .i64) y3.2.L), I y3.2.v_at], .box 33 [.d (Sl eS y1.1.Users), .d (Sl e_api_Owner y1.1.Owners), I y1.1.Life, B y1.1.Approve, .d (Sl e_api_Step y3.1), I y9], .dead, .box 33 [.d (Sl eS y1.1.Users), .d (Sl e_api_Owner y1.1.Owners), I y1.1.Life, B y1.1.Approve, .d (Sl e_api_Step y3.1), I y9]] rfl ?_
  refine go_ops hΓ 3 rfl ?_
  obtain rfl := Option.some.inj h10
  exact fin_objs hΓ [_, _, _] (.inr rfl) rfl rfl rfl rfl (.inr ⟨HB.mk rfl, rfl⟩)
theorem c_slices_Clone_api_Step_api_Step {s : List T_api_Step} {r : List T_api_Step} (h : m_slices_Clone_api_Step_api_Step s = some r) : EC Tryz.prog 25 [.d (Sl e_api_Step s)] [] fun g hp' => g = .sl 0 r.length ∧ hp' = [.row 37 13 r.length (r.flatMap e_api_Step)] := by
  refine ec_enterC (Fr.of 0 _) Tryz.func25 rfl (Fr.of_ok _) (Nat.le_of_ble_eq_true rfl) fun _ => ?_
  refine go_in ?_
  unfold m_slices_Clone_api_Step_api_Step at h
  refine go hΓ 2 rfl ?_
  refine eo_nilOwn (t := 0) 37 13 rfl (Nat.le_of_ble_eq_true rfl) ?_
  refine go_ops hΓ 6 rfl ?_
  refine eo_isNil hΓ rfl rfl rfl rfl rfl fun b hbn => ?_
  rcases b with _ | _
  · refine go_ops hΓ 7 rfl ?_
    refine eo_litRowT hΓ (enc := e_api_Step) ([] : List T_api_Step) rfl rfl rfl rfl rfl rfl rfl rfl rfl rfl rfl rfl (Nat.le_of_ble_eq_true rfl) ?_
    obtain ⟨y1, hy1, h2⟩ := bi_ok h
    refine go_ops hΓ 1 rfl ?_
    refine eo_appendT hΓ (enc := e_api_Step) hy1 rfl rfl rfl rfl rfl rfl rfl rfl rfl (fun _ => rfl) rfl rfl rfl rfl ?_
    refine go_ops hΓ 3 rfl ?_
    refine j_kill 0 [.dead, .row 37 13 y1.length (y1.flatMap e_api_Step)] rfl (Nat.le_of_ble_eq_true rfl) ?_
    refine j_move 1 0 [.row 37 13 y1.length (y1.flatMap e_api_Step), .dead] rfl rfl rfl rfl rfl rfl ?_
    refine go hΓ 1 rfl ?_
    refine cv_here ?_
    obtain rfl := Option.some.inj h2
    exact fin_objs hΓ [_] (.inr rfl) rfl rfl rfl rfl (.inr ⟨HB.mk rfl, rfl⟩)
  · obtain rfl := List.eq_nil_of_length_eq_zero (hbn rfl).1
    replace h : (some ([] : List T_api_Step) : Option (List T_api_Step)) = some r := h
    refine go_ops hΓ 5 rfl ?_
    refine eo_nilOwn (t := 0) 37 13 rfl (Nat.le_of_ble_eq_true rfl) ?_
    refine go_ops hΓ 4 rfl ?_
    refine cv_kill 0 [.dead, .row 37 13 ([] : List T_api_Step).length (([] : List T_api_Step).flatMap e_api_Step)] rfl (Nat.le_of_ble_eq_true rfl) ?_
    refine cv_move 1 0 [.row 37 13 ([] : List T_api_Step).length (([] : List T_api_Step).flatMap e_api_Step), .dead] rfl rfl rfl rfl rfl rfl ?_
    refine cv_here ?_
    obtain rfl := Option.some.inj h
    exact fin_objs hΓ [_] (.inr rfl) rfl rfl rfl rfl (.inr ⟨HB.mk rfl, rfl⟩)
set_option maxHeartbeats 8000000 in
theorem c_kit_IsKey {k : Nat} {s : Str} {r : Bool} (h : m_kit_IsKey k s = some r) : Pure Tryz.prog 107 [S s] (B r) := by
  refine Pure.enter (Fr.of 0 _) Tryz.func107 rfl (Fr.of_ok _) rfl rfl ?_
  refine go_in ?_
  unfold m_kit_IsKey at h
  refine go hΓ 11 rfl ?_
  obtain ⟨q4, hq4, h5⟩ := bi_ok h
  refine j_cutEZ (R := fun a6 => q4 = .inl a6) (fun a6 => [(0, S s)]) (fun a6 => []) ?_ ?_
  · refine go hΓ 1 rfl ?_
    refine j_loop hq4 (fun s2 => [(0, S s), (3, I s2)]) (fun s2 => []) ⟨⟨rfl, rfl, trivial⟩, [], rfl, .inl rfl⟩ (fun s2 y10 hy8 hout9 => ?_)
    refine go hΓ 9 rfl ?_
    refine j_cond rfl (fun hb => ?_) (fun hb => ?_)
    · have h11 := cT hy8 hb
      obtain ⟨c12, hc12, h13⟩ := bi_ok h11
      refine go hΓ 8 rfl ?_
      refine eo_o rfl (op_byteZ hΓ hc12 rfl rfl rfl rfl) ?_
      refine go_ops hΓ 8 rfl ?_
      refine o_cut 3 [(0, S s), (3, I s2), (4, .d (.v (.int .u8 (c12.toNat : Int)))), (19, B ((decide (((c12.toNat : Int) : Int) ≥ 97)) && (decide (((c12.toNat : Int) : Int) ≤ 122))))] [] ?_ ?_
      · refine eo_gsplit rfl rfl (fun hb => ?_) (fun hb => ?_)
        · refine go_ops hΓ 4 rfl ?_
          exact ⟨⟨rfl, rfl, rfl, get_b rfl (and_t hb), trivial⟩, [], rfl, .inl rfl⟩
        · refine go_ops hΓ 4 rfl ?_
          exact ⟨⟨rfl, rfl, rfl, get_b rfl (and_f hb), trivial⟩, [], rfl, .inl rfl⟩
      · refine go_ops hΓ 1 rfl ?_
        refine o_cut 19 [(0, S s), (3, I s2), (39, B (((decide (((c12.toNat : Int) : Int) ≥ 97)) && (decide (((c12.toNat : Int) : Int) ≤ 122))) || ((decide ((s2 : Int) > 0)) && ((((decide (((c12.toNat : Int) : Int) ≥ 48)) && (decide (((c12.toNat : Int) : Int) ≤ 57))) || (((c12.toNat : Int) : Int) == 45)) || (((c12.toNat : Int) : Int) == 95)))))] [] ?_ ?_
        · refine eo_gsplit rfl rfl (fun hb => ?_) (fun hb => ?_)
          · refine go_ops hΓ 20 rfl ?_
            exact ⟨⟨rfl, rfl, get_b rfl (or_t hb), trivial⟩, [], rfl, .inl rfl⟩
          · refine go_ops hΓ 3 rfl ?_
            refine o_cut 15 [(0, S s), (3, I s2), (20, B false), (38, B ((decide ((s2 : Int) > 0)) && ((((decide (((c12.toNat : Int) : Int) ≥ 48)) && (decide (((c12.toNat : Int) : Int) ≤ 57))) || (((c12.toNat : Int) : Int) == 45)) || (((c12.toNat : Int) : Int) == 95))))] [] ?_ ?_
            · refine eo_gsplit rfl rfl (fun hb => ?_) (fun hb => ?_)
              · refine go_ops hΓ 3 rfl ?_
                refine o_cut 3 [(0, S s), (3, I s2), (4, .d (.v (.int .u8 (c12.toNat : Int)))), (20, B false), (23, B true), (29, B ((decide (((c12.toNat : Int) : Int) ≥ 48)) && (decide (((c12.toNat : Int) : Int) ≤ 57))))] [] ?_ ?_
                · refine eo_gsplit rfl rfl (fun hb => ?_) (fun hb => ?_)
                  · refine go_ops hΓ 4 rfl ?_
                    exact ⟨⟨rfl, rfl, rfl, rfl, rfl, get_b rfl (and_t hb), trivial⟩, [], rfl, .inl rfl⟩
                  · refine go_ops hΓ 4 rfl ?_
                    exact ⟨⟨rfl, rfl, rfl, rfl, rfl, get_b rfl (and_f hb), trivial⟩, [], rfl, .inl rfl⟩
                · refine go_ops hΓ 1 rfl ?_
                  refine o_cut 3 [(0, S s), (3, I s2), (4, .d (.v (.int .u8 (c12.toNat : Int)))), (20, B false), (23, B true), (33, B (((decide (((c12.toNat : Int) : Int) ≥ 48)) && (decide (((c12.toNat : Int) : Int) ≤ 57))) || (((c12.toNat : Int) : Int) == 45)))] [] ?_ ?_
                  · refine eo_gsplit rfl rfl (fun hb => ?_) (fun hb => ?_)
                    · refine go_ops hΓ 4 rfl ?_
                      exact ⟨⟨rfl, rfl, rfl, rfl, rfl, get_b rfl (or_t hb), trivial⟩, [], rfl, .inl rfl⟩
                    · refine go_ops hΓ 4 rfl ?_
                      exact ⟨⟨rfl, rfl, rfl, rfl, rfl, get_b rfl (or_f hb), trivial⟩, [], rfl, .inl rfl⟩
                  · refine go_ops hΓ 1 rfl ?_
                    refine o_cut 3 [(0, S s), (3, I s2), (20, B false), (23, B true), (37, B ((((decide (((c12.toNat : Int) : Int) ≥ 48)) && (decide (((c12.toNat : Int) : Int) ≤ 57))) || (((c12.toNat : Int) : Int) == 45)) || (((c12.toNat : Int) : Int) == 95)))] [] ?_ ?_
                    · refine eo_gsplit rfl rfl (fun hb => ?_) (fun hb => ?_)
                      · refine go_ops hΓ 4 rfl ?_
                        exact ⟨⟨rfl, rfl, rfl, rfl, get_b rfl (or_t hb), trivial⟩, [], rfl, .inl rfl⟩
                      · refine go_ops hΓ 4 rfl ?_
                        exact ⟨⟨rfl, rfl, rfl, rfl, get_b rfl (or_f hb), trivial⟩, [], rfl, .inl rfl⟩
                    · refine go_ops hΓ 2 rfl ?_
                      exact ⟨⟨rfl, rfl, rfl, get_b rfl (and_t hb), trivial⟩, [], rfl, .inl rfl⟩
              · refine go_ops hΓ 16 rfl ?_
                exact ⟨⟨rfl, rfl, rfl, get_b rfl (and_f hb), trivial⟩, [], rfl, .inl rfl⟩
            · refine go_ops hΓ 2 rfl ?_
              exact ⟨⟨rfl, rfl, get_b rfl (or_f hb), trivial⟩, [], rfl, .inl rfl⟩
        · refine go_ops hΓ 3 rfl ?_
          refine j_cond rfl (fun hb => ?_) (fun hb => ?_)
          · have h14 := cT h13 hb
            refine go hΓ 8 rfl ?_
            obtain ⟨v15, hv15, h16⟩ := bi_ok h14
            obtain rfl := Option.some.inj h16
            obtain rfl := hout9 _ rfl
            obtain rfl := Option.some.inj h5
            refine go hΓ 4 rfl ?_
            obtain rfl := Option.some.inj hv15
            exact fin_pure hΓ (.inr rfl) rfl rfl
          · have h17 := cF h13 hb
            refine go hΓ 8 rfl ?_
            obtain rfl := Option.some.inj h17
            exact ⟨_, rfl, ⟨⟨rfl, rfl, trivial⟩, [], rfl, .inl rfl⟩⟩
    · have h18 := cF hy8 hb
      refine go hΓ 4 rfl ?_
      obtain rfl := Option.some.inj h18
      obtain rfl := hout9 _ rfl
      exact ⟨_, rfl, ⟨⟨rfl, trivial⟩, [], rfl, .inl rfl⟩⟩
  · intro a6 ha
    subst ha
    replace h5 := orI_l h5
    refine go hΓ 6 rfl ?_
    refine o_cut 4 [(47, B ((!((s : Str) == [])) && (decide (((s.length : Int) : Int) ≤ 40))))] [] ?_ ?_
    · refine eo_gsplit rfl rfl (fun hb => ?_) (fun hb => ?_)
      · refine go_ops hΓ 5 rfl ?_
        exact ⟨⟨get_b rfl (and_t hb), trivial⟩, [], rfl, .inl rfl⟩
      · refine go_ops hΓ 5 rfl ?_
        exact ⟨⟨get_b rfl (and_f hb), trivial⟩, [], rfl, .inl rfl⟩
    · refine go_ops hΓ 4 rfl ?_
      obtain rfl := Option.some.inj h5
      exact fin_pure hΓ (.inr rfl) rfl rfl
set_option maxHeartbeats 8000000 in
theorem c_kit_RisingFault {k : Nat} {l : List Str} {r : Int} (h : m_kit_RisingFault k l = some r) : Pure Tryz.prog 106 [.d (Sl eS l)] (I r) := by
  refine Pure.enter (Fr.of 0 _) Tryz.func106 rfl (Fr.of_ok _) rfl rfl ?_
  refine go_in ?_
  unfold m_kit_RisingFault at h
  refine go hΓ 13 rfl ?_
  obtain ⟨q4, hq4, h5⟩ := bi_ok h
  refine j_bound 0 rfl fun hb7 => ?_
  refine j_cutEZ (R := fun a6 => q4 = .go a6) (fun a6 => []) (fun a6 => []) ?_ ?_
  · refine go hΓ 1 rfl ?_
    refine j_range l hq4 (fun i1 s2 => [(0, .d (Sl eS l)), (5, .d (Sl eS l)), (6, I (l.length : Int)), (7, I (i1 : Int))]) (fun s2 => []) ⟨⟨rfl, rfl, rfl, rfl, trivial⟩, [], rfl, .inl rfl⟩ (fun i1 x3 s2 y11 hx8 hlt hy9 hout10 => ?_) (fun s2 hgo => ?_)
    · refine go hΓ 6 rfl ?_
      refine j_condT rfl (decide_eq_true (Int.ofNat_lt.2 hlt)) ?_
      refine go hΓ 7 rfl ?_
      refine eo_o rfl (op_elemZ hΓ (enc := eS) (getZ_nat hx8) rfl rfl rfl rfl rfl (fun _ => rfl)) ?_
      obtain ⟨y12, hy12, h13⟩ := bi_ok hy9
      refine go_ops hΓ 9 rfl ?_
      refine eo_callP (callable Tryz.func107 rfl rfl) (c_kit_IsKey hy12) rfl (Nat.le_of_ble_eq_true rfl) rfl rfl rfl rfl rfl ?_
      refine go_ops hΓ 3 rfl ?_
      refine j_cond rfl (fun hb => ?_) (fun hb => ?_)
      · have h14 := cT h13 hb
        refine go hΓ 9 rfl ?_
        obtain ⟨v15, hv15, h16⟩ := bi_ok h14
        obtain rfl := Option.some.inj h16
        obtain rfl := hout10 _ rfl
        obtain rfl := Option.some.inj h5
        refine go hΓ 4 rfl ?_
        obtain rfl := Option.some.inj hv15
        exact fin_pure hΓ (.inr rfl) rfl rfl
      · have h17 := cF h13 hb
        refine go hΓ 7 rfl ?_
        obtain ⟨q18, hq18, h19⟩ := bi_ok h17
        refine o_cut 8 [(0, .d (Sl eS l)), (5, .d (Sl eS l)), (6, I (l.length : Int)), (7, I (i1 : Int)), (25, B q18)] [] ?_ ?_
        · refine eo_gsplit rfl rfl (fun hb => ?_) (fun hb => ?_)
          · have h20 := cT hq18 hb
            obtain ⟨x21, hx21, h22⟩ := bi_ok h20
            refine go_ops hΓ 4 rfl ?_
            refine eo_guard rfl ?_
            refine eo_o rfl (op_elemZ hΓ (enc := eS) hx21 rfl rfl rfl rfl rfl (fun _ => rfl)) ?_
            refine go_ops hΓ 4 rfl ?_
            obtain rfl := Option.some.inj h22
            exact ⟨⟨rfl, rfl, rfl, rfl, rfl, trivial⟩, [], rfl, .inl rfl⟩
          · have h23 := cF hq18 hb
            refine go_ops hΓ 9 rfl ?_
            obtain rfl := Option.some.inj h23
            exact ⟨⟨rfl, rfl, rfl, rfl, rfl, trivial⟩, [], rfl, .inl rfl⟩
        · refine go_ops hΓ 2 rfl ?_
          refine j_cond rfl (fun hb => ?_) (fun hb => ?_)
          · have h24 := cT h19 hb
            refine go hΓ 8 rfl ?_
            obtain ⟨v25, hv25, h26⟩ := bi_ok h24
            obtain rfl := Option.some.inj h26
            obtain rfl := hout10 _ rfl
            obtain rfl := Option.some.inj h5
            refine go hΓ 4 rfl ?_
            obtain rfl := Option.some.inj hv25
            exact fin_pure hΓ (.inr rfl) rfl rfl
          · have h27 := cF h19 hb
            refine go hΓ 7 rfl ?_
            obtain rfl := Option.some.inj h27
            exact ⟨_, rfl, ⟨⟨rfl, rfl, rfl, get_eq rfl (w64_succ (Nat.lt_of_lt_of_le hlt hb7)), trivial⟩, [], rfl, .inl rfl⟩⟩
    · subst hgo
      refine go hΓ 6 rfl ?_
      refine j_condF rfl (decide_eq_false (Int.lt_irrefl _)) ?_
      refine go hΓ 4 rfl ?_
      exact ⟨_, rfl, ⟨trivial, [], rfl, .inl rfl⟩⟩
  · intro a6 ha
    subst ha
    replace h5 := goI_l h5
    refine go hΓ 7 rfl ?_
    obtain rfl := Option.some.inj h5
    exact fin_pure hΓ (.inr rfl) rfl rfl
theorem c_kit_Outside {n : Int} {low : Int} {high : Int} {r : Bool} (h : m_kit_Outside n low high = some r) : Pure Tryz.prog 108 [I n, I low, I high] (B r) := by
  refine Pure.enter (Fr.of 0 _) Tryz.func108 rfl (Fr.of_ok _) rfl rfl ?_
  refine go_in ?_
  unfold m_kit_Outside at h
  refine go hΓ 11 rfl ?_
  refine o_cut 4 [(6, B false), (14, B ((decide ((n : Int) < low)) || (decide ((n : Int) > high))))] [] ?_ ?_
  · refine eo_gsplit rfl rfl (fun hb => ?_) (fun hb => ?_)
    · refine go_ops hΓ 5 rfl ?_
      exact ⟨⟨rfl, get_b rfl (or_t hb), trivial⟩, [], rfl, .inl rfl⟩
    · refine go_ops hΓ 5 rfl ?_
      exact ⟨⟨rfl, get_b rfl (or_f hb), trivial⟩, [], rfl, .inl rfl⟩
  · refine go_ops hΓ 4 rfl ?_
    obtain rfl := Option.some.inj h
    exact fin_pure hΓ (.inr rfl) rfl rfl
set_option maxHeartbeats 8000000 in
theorem c_node_CheckDirectory {k : Nat} {d : T_api_Directory} {r : Int} (h : m_node_CheckDirectory k d = some r) : Pure Tryz.prog 29 [.agg [.d (Sl eS d.Users), .d (Sl e_api_Owner d.Owners), I d.Life, B d.Approve]] (I r) := by
  refine Pure.enter (Fr.of 0 _) Tryz.func29 rfl (Fr.of_ok _) rfl rfl ?_
  refine go_in ?_
  unfold m_node_CheckDirectory at h
  refine go hΓ 2 rfl ?_
  refine eo_box rfl rfl rfl rfl (Nat.le_of_ble_eq_true rfl) ?_
  refine go_ops hΓ 12 rfl ?_
  refine j_cond rfl (fun hb => ?_) (fun hb => ?_)
  · have h1 := cT h hb
    refine go hΓ 7 rfl ?_
    obtain rfl := Option.some.inj h1
    exact fin_pure hΓ (.inr rfl) rfl rfl
  · have h2 := cF h hb
    obtain ⟨y3, hy3, h4⟩ := bi_ok h2
    refine go hΓ 7 rfl ?_
    refine eo_callP (callable Tryz.func106 rfl rfl) (c_kit_RisingFault hy3) rfl (Nat.le_of_ble_eq_true rfl) rfl rfl rfl rfl rfl ?_
    refine go_ops hΓ 9 rfl ?_
    refine j_cond rfl (fun hb => ?_) (fun hb => ?_)
    · have h5 := cT h4 hb
      refine go hΓ 8 rfl ?_
      obtain rfl := Option.some.inj h5
      exact fin_pure hΓ (.inr rfl) rfl rfl
    · have h6 := cF h4 hb
      refine go hΓ 11 rfl ?_
      refine j_cond rfl (fun hb => ?_) (fun hb => ?_)
      · have h7 := cT h6 hb
        refine go hΓ 7 rfl ?_
        obtain rfl := Option.some.inj h7
        exact fin_pure hΓ (.inr rfl) rfl rfl
      · have h8 := cF h6 hb
        refine go hΓ 11 rfl ?_
        obtain ⟨q12, hq12, h13⟩ := bi_ok h8
        refine j_bound 23 rfl fun hb15 => ?_
        refine j_cutEZ (R := fun a14 => q12 = .go a14) (fun a14 => [(1, .ptr 0 0)]) (fun a14 => [.box 29 [.d (Sl eS d.Users), .d (Sl e_api_Owner d.Owners), I d.Life, B d.Approve]]) ?_ ?_
        · refine go hΓ 1 rfl ?_
          refine j_range d.Owners hq12 (fun i9 s10 => [(1, .ptr 0 0), (23, .d (Sl e_api_Owner d.Owners)), (24, I (d.Owners.length : Int)), (25, I (i9 : Int))]) (fun s10 => [.box 29 [.d (Sl eS d.Users), .d (Sl e_api_Owner d.Owners), I d.Life, B d.Approve]]) ⟨⟨rfl, rfl, rfl, rfl, trivial⟩, [], rfl, .inl rfl⟩ (fun i9 x11 s10 y19 hx16 hlt hy17 hout18 => ?_) (fun s10 hgo => ?_)
          · refine go hΓ 6 rfl ?_
            refine j_condT rfl (decide_eq_true (Int.ofNat_lt.2 hlt)) ?_
            refine go hΓ 7 rfl ?_
            refine eo_o rfl (op_elemZ hΓ (enc := e_api_Owner) (getZ_nat hx16) rfl rfl rfl rfl rfl (fun _ => rfl)) ?_
            refine go_ops hΓ 1 rfl ?_
            refine eo_alloc hΓ rfl rfl rfl (Nat.le_of_ble_eq_true rfl) ?_
            refine go_ops hΓ 1 rfl ?_
            refine eo_store hΓ rfl rfl rfl rfl rfl rfl rfl rfl (Nat.le_of_ble_eq_true rfl) ?_
            refine eo_hp [.box 29 [.d (Sl eS d.Users), .d (Sl e_api_Owner d.Owners), I d.Life, B d.Approve], .box 155 [S x11.Tag, .d (Sl eS x11.Users)]] rfl ?_
            obtain ⟨y20, hy20, h21⟩ := bi_ok hy17
            refine go_ops hΓ 7 rfl ?_
            refine eo_callP (callable Tryz.func107 rfl rfl) (c_kit_IsKey hy20) rfl (Nat.le_of_ble_eq_true rfl) rfl rfl rfl rfl rfl ?_
            refine go_ops hΓ 3 rfl ?_
            refine j_cond rfl (fun hb => ?_) (fun hb => ?_)
            · have h22 := cT h21 hb
              refine go hΓ 9 rfl ?_
              obtain ⟨v23, hv23, h24⟩ := bi_ok h22
              obtain rfl := Option.some.inj h24
              obtain rfl := hout18 _ rfl
              obtain rfl := Option.some.inj h13
              refine go hΓ 4 rfl ?_
              obtain rfl := Option.some.inj hv23
              exact fin_pure hΓ (.inr rfl) rfl rfl
            · have h25 := cF h21 hb
              obtain ⟨q26, hq26, h27⟩ := bi_ok h25
              refine go hΓ 4 rfl ?_
              refine j_cutNZ [(1, .ptr 0 0), (5, .ptr 1 0), (23, .d (Sl e_api_Owner d.Owners)), (24, I (d.Owners.length : Int)), (25, I (i9 : Int)), (47, B q26)] [.box 29 [.d (Sl eS d.Users), .d (Sl e_api_Owner d.Owners), I d.Life, B d.Approve], .box 155 [S x11.Tag, .d (Sl eS x11.Users)]] ?_ ?_
              · refine j_draw hmix (by kernel_rfl) ?_
                refine go hΓ 3 rfl ?_
                refine gl_gsplit rfl rfl (fun hb => ?_) (fun hb => ?_)
                · have h28 := cT hq26 hb
                  obtain ⟨x29, hx29, h30⟩ := bi_ok h28
                  refine go_draw hΓ 6 rfl ?_
                  refine gl_og rfl rfl (op_elemZ hΓ (enc := e_api_Owner) hx29 rfl rfl rfl rfl rfl (fun _ => rfl)) ?_
                  refine go_draw hΓ 5 rfl ?_
                  obtain rfl := Option.some.inj h30
                  exact ⟨⟨rfl, rfl, rfl, rfl, rfl, rfl, trivial⟩, [], rfl, .inl rfl⟩
                · have h31 := cF hq26 hb
                  refine go_draw hΓ 12 rfl ?_
                  obtain rfl := Option.some.inj h31
                  exact ⟨⟨rfl, rfl, rfl, rfl, rfl, rfl, trivial⟩, [], rfl, .inl rfl⟩
              · refine go hΓ 1 rfl ?_
                refine j_cond rfl (fun hb => ?_) (fun hb => ?_)
                · have h32 := cT h27 hb
                  refine go hΓ 9 rfl ?_
                  obtain ⟨v33, hv33, h34⟩ := bi_ok h32
                  obtain rfl := Option.some.inj h34
                  obtain rfl := hout18 _ rfl
                  obtain rfl := Option.some.inj h13
                  refine go hΓ 4 rfl ?_
                  obtain rfl := Option.some.inj hv33
                  exact fin_pure hΓ (.inr rfl) rfl rfl
                · have h35 := cF h27 hb
                  refine go hΓ 10 rfl ?_
                  obtain ⟨q39, hq39, h40⟩ := bi_ok h35
                  refine j_bound 49 rfl fun hb42 => ?_
                  refine j_cutEZ (R := fun a41 => q39 = .go a41) (fun a41 => [(1, .ptr 0 0), (23, .d (Sl e_api_Owner d.Owners)), (24, I (d.Owners.length : Int)), (25, I (i9 : Int))]) (fun a41 => [.box 29 [.d (Sl eS d.Users), .d (Sl e_api_Owner d.Owners), I d.Life, B d.Approve], .box 155 [S x11.Tag, .d (Sl eS x11.Users)]]) ?_ ?_
                  · refine go hΓ 1 rfl ?_
                    refine j_range x11.Users hq39 (fun i36 s37 => [(1, .ptr 0 0), (5, .ptr 1 0), (23, .d (Sl e_api_Owner d.Owners)), (24, I (d.Owners.length : Int)), (25, I (i9 : Int)), (49, .d (Sl eS x11.Users)), (50, I (x11.Users.length : Int)), (51, I (i36 : Int))]) (fun s37 => [.box 29 [.d (Sl eS d.Users), .d (Sl e_api_Owner d.Owners), I d.Life, B d.Approve], .box 155 [S x11.Tag, .d (Sl eS x11.Users)]]) ⟨⟨rfl, rfl, rfl, rfl, rfl, rfl, rfl, rfl, trivial⟩, [], rfl, .inl rfl⟩ (fun i36 x38 s37 y46 hx43 hlt hy44 hout45 => ?_) (fun s37 hgo => ?_)
                    · refine go hΓ 6 rfl ?_
                      refine j_condT rfl (decide_eq_true (Int.ofNat_lt.2 hlt)) ?_
                      refine go hΓ 7 rfl ?_
                      refine eo_o rfl (op_elemZ hΓ (enc := eS) (getZ_nat hx43) rfl rfl rfl rfl rfl (fun _ => rfl)) ?_
                      obtain ⟨y47, hy47, h48⟩ := bi_ok hy44
                      refine go_ops hΓ 11 rfl ?_
                      refine eo_callP (callable Tryz.func61 rfl rfl) (c_slices_Contains_string_string hy47) rfl (Nat.le_of_ble_eq_true rfl) rfl rfl rfl rfl rfl ?_
                      refine go_ops hΓ 3 rfl ?_
                      refine j_cond rfl (fun hb => ?_) (fun hb => ?_)
                      · have h49 := cT h48 hb
                        refine go hΓ 9 rfl ?_
                        obtain ⟨v50, hv50, h51⟩ := bi_ok h49
                        obtain rfl := Option.some.inj h51
                        obtain rfl := hout45 _ rfl
                        obtain rfl := Option.some.inj h40
                        refine go hΓ 5 rfl ?_
                        obtain ⟨v52, hv52, h53⟩ := bi_ok hv50
                        obtain rfl := Option.some.inj h53
                        obtain rfl := hout18 _ rfl
                        obtain rfl := Option.some.inj h13
                        refine go hΓ 4 rfl ?_
                        obtain rfl := Option.some.inj hv52
                        exact fin_pure hΓ (.inr rfl) rfl rfl
                      · have h54 := cF h48 hb
                        refine go hΓ 7 rfl ?_
                        obtain ⟨q55, hq55, h56⟩ := bi_ok h54
                        refine o_cut 9 [(1, .ptr 0 0), (5, .ptr 1 0), (23, .d (Sl e_api_Owner d.Owners)), (24, I (d.Owners.length : Int)), (25, I (i9 : Int)), (49, .d (Sl eS x11.Users)), (50, I (x11.Users.length : Int)), (51, I (i36 : Int)), (72, B q55)] [.box 29 [.d (Sl eS d.Users), .d (Sl e_api_Owner d.Owners), I d.Life, B d.Approve], .box 155 [S x11.Tag, .d (Sl eS x11.Users)]] ?_ ?_
                        · refine eo_gsplit rfl rfl (fun hb => ?_) (fun hb => ?_)
                          · have h57 := cT hq55 hb
                            obtain ⟨x58, hx58, h59⟩ := bi_ok h57
                            refine go_ops hΓ 5 rfl ?_
                            refine eo_guard rfl ?_
                            refine eo_o rfl (op_elemZ hΓ (enc := eS) hx58 rfl rfl rfl rfl rfl (fun _ => rfl)) ?_
                            refine go_ops hΓ 4 rfl ?_
                            obtain rfl := Option.some.inj h59
                            exact ⟨⟨rfl, rfl, rfl, rfl, rfl, rfl, rfl, rfl, rfl, trivial⟩, [], rfl, .inl rfl⟩
                          · have h60 := cF hq55 hb
                            refine go_ops hΓ 10 rfl ?_
                            obtain rfl := Option.some.inj h60
                            exact ⟨⟨rfl, rfl, rfl, rfl, rfl, rfl, rfl, rfl, rfl, trivial⟩, [], rfl, .inl rfl⟩
                        · refine go_ops hΓ 2 rfl ?_
                          refine j_cond rfl (fun hb => ?_) (fun hb => ?_)
                          · have h61 := cT h56 hb
                            refine go hΓ 8 rfl ?_
                            obtain ⟨v62, hv62, h63⟩ := bi_ok h61
                            obtain rfl := Option.some.inj h63
                            obtain rfl := hout45 _ rfl
                            obtain rfl := Option.some.inj h40
                            refine go hΓ 5 rfl ?_
                            obtain ⟨v64, hv64, h65⟩ := bi_ok hv62
                            obtain rfl := Option.some.inj h65
                            obtain rfl := hout18 _ rfl
                            obtain rfl := Option.some.inj h13
                            refine go hΓ 4 rfl ?_
                            obtain rfl := Option.some.inj hv64
                            exact fin_pure hΓ (.inr rfl) rfl rfl
                          · have h66 := cF h56 hb
                            refine go hΓ 7 rfl ?_
                            obtain rfl := Option.some.inj h66
                            exact ⟨_, rfl, ⟨⟨rfl, rfl, rfl, rfl, rfl, rfl, rfl, get_eq rfl (w64_succ (Nat.lt_of_lt_of_le hlt hb42)), trivial⟩, [], rfl, .inl rfl⟩⟩
                    · subst hgo
                      refine go hΓ 6 rfl ?_
                      refine j_condF rfl (decide_eq_false (Int.lt_irrefl _)) ?_
                      refine go hΓ 4 rfl ?_
                      exact ⟨_, rfl, ⟨⟨rfl, rfl, rfl, rfl, trivial⟩, [], rfl, .inl rfl⟩⟩
                  · intro a41 ha
                    subst ha
                    replace h40 := goI_l h40
                    refine go hΓ 6 rfl ?_
                    obtain rfl := Option.some.inj h40
                    exact ⟨_, rfl, ⟨⟨rfl, rfl, rfl, get_eq rfl (w64_succ (Nat.lt_of_lt_of_le hlt hb15)), trivial⟩, [_], rfl, .inr ⟨HB.mk rfl, FB.mk rfl, (Nat.le_of_ble_eq_true rfl)⟩⟩⟩
          · subst hgo
            refine go hΓ 6 rfl ?_
            refine j_condF rfl (decide_eq_false (Int.lt_irrefl _)) ?_
            refine go hΓ 4 rfl ?_
            exact ⟨_, rfl, ⟨⟨rfl, trivial⟩, [], rfl, .inl rfl⟩⟩
        · intro a14 ha
          subst ha
          replace h13 := goI_l h13
          obtain ⟨y67, hy67, h68⟩ := bi_ok h13
          refine go hΓ 6 rfl ?_
          refine eo_callP (callable Tryz.func108 rfl rfl) (c_kit_Outside hy67) rfl (Nat.le_of_ble_eq_true rfl) rfl rfl rfl rfl rfl ?_
          refine go_ops hΓ 2 rfl ?_
          refine j_cond rfl (fun hb => ?_) (fun hb => ?_)
          · have h69 := cT h68 hb
            refine go hΓ 7 rfl ?_
            obtain rfl := Option.some.inj h69
            exact fin_pure hΓ (.inr rfl) rfl rfl
          · have h70 := cF h68 hb
            refine go hΓ 8 rfl ?_
            obtain rfl := Option.some.inj h70
            exact fin_pure hΓ (.inr rfl) rfl rfl
theorem c_node_owns_1 {o : T_api_Owner} {x : Str} {r : Bool} (h : m_node_owns_1 o x = some r) : EC Tryz.prog 210 [.agg [S o.Tag, .d (Sl eS o.Users)], .ptr 0 0] [.box 9 [S x]] fun g hp' => g = B r ∧ hp' = [.box 9 [S x]] := by
  refine ec_enter (Fr.of 0 _) Tryz.func210 rfl (Fr.of_ok _) (Nat.le_of_ble_eq_true rfl) fun _ => ?_
  refine go_in ?_
  unfold m_node_owns_1 at h
  refine go hΓ 2 rfl ?_
  refine eo_box rfl rfl rfl rfl (Nat.le_of_ble_eq_true rfl) ?_
  refine go_ops hΓ 13 rfl ?_
  obtain rfl := Option.some.inj h
  exact fin_objs hΓ [_] (.inr rfl) rfl rfl rfl rfl (.inr ⟨HB.mk rfl, rfl⟩)
theorem c_slices_IndexFunc_api_Owner_api_Owner {s : List T_api_Owner} {f : Str} {r : Int} (h : m_slices_IndexFunc_api_Owner_api_Owner s f = some r) : EC Tryz.prog 209 [.d (Sl e_api_Owner s), .fn (.func 210) [] [.ptr 0 0]] [.box 9 [S f]] fun g hp' => g = I r ∧ hp' = [.box 9 [S f]] := by
  refine ec_enter (Fr.of 0 _) Tryz.func209 rfl (Fr.of_ok _) (Nat.le_of_ble_eq_true rfl) fun _ => ?_
  refine go_in ?_
  unfold m_slices_IndexFunc_api_Owner_api_Owner at h
  refine go hΓ 13 rfl ?_
  obtain ⟨q4, hq4, h5⟩ := bi_ok h
  refine j_bound 0 rfl fun hb7 => ?_
  refine j_cutEZ (R := fun a6 => q4 = .go a6) (fun a6 => []) (fun a6 => [.box 9 [S f]]) ?_ ?_
  · refine go hΓ 1 rfl ?_
    refine j_range s hq4 (fun i1 s2 => [(0, .d (Sl e_api_Owner s)), (1, .fn (.func 210) [] [.ptr 0 0]), (7, I (s.length : Int)), (8, I (i1 : Int))]) (fun s2 => [.box 9 [S f]]) ⟨⟨rfl, rfl, rfl, rfl, trivial⟩, [], rfl, .inl rfl⟩ (fun i1 x3 s2 y11 hx8 hlt hy9 hout10 => ?_) (fun s2 hgo => ?_)
    · refine go hΓ 6 rfl ?_
      refine j_condT rfl (decide_eq_true (Int.ofNat_lt.2 hlt)) ?_
      refine go hΓ 15 rfl ?_
      refine eo_o rfl (op_elemZ hΓ (enc := e_api_Owner) (getZ_nat hx8) rfl rfl rfl rfl rfl (fun _ => rfl)) ?_
      obtain ⟨y12, hy12, h13⟩ := bi_ok hy9
      refine go_ops hΓ 1 rfl ?_
      refine eo_callF [0] (B y12) [.box 9 [S f]] (callable Tryz.func210 rfl rfl) (c_node_owns_1 hy12) rfl (Nat.le_of_ble_eq_true rfl) rfl rfl rfl rfl rfl rfl rfl rfl rfl rfl ?_
      refine go_ops hΓ 2 rfl ?_
      refine j_cond rfl (fun hb => ?_) (fun hb => ?_)
      · have h14 := cT h13 hb
        refine go hΓ 9 rfl ?_
        obtain ⟨v15, hv15, h16⟩ := bi_ok h14
        obtain rfl := Option.some.inj h16
        obtain rfl := hout10 _ rfl
        obtain rfl := Option.some.inj h5
        refine go hΓ 4 rfl ?_
        obtain rfl := Option.some.inj hv15
        exact fin_objs hΓ [] (.inr rfl) rfl rfl rfl rfl (.inl rfl)
      · have h17 := cF h13 hb
        refine go hΓ 7 rfl ?_
        obtain rfl := Option.some.inj h17
        exact ⟨_, rfl, ⟨⟨rfl, rfl, rfl, get_eq rfl (w64_succ (Nat.lt_of_lt_of_le hlt hb7)), trivial⟩, [], rfl, .inl rfl⟩⟩
    · subst hgo
      refine go hΓ 6 rfl ?_
      refine j_condF rfl (decide_eq_false (Int.lt_irrefl _)) ?_
      refine go hΓ 4 rfl ?_
      exact ⟨_, rfl, ⟨trivial, [], rfl, .inl rfl⟩⟩
  · intro a6 ha
    subst ha
    replace h5 := goI_l h5
    refine go hΓ 7 rfl ?_
    obtain rfl := Option.some.inj h5
    exact fin_objs hΓ [] (.inr rfl) rfl rfl rfl rfl (.inl rfl)
end Go.Proofs.YtjmlnnanfkiakaaGreatDoor
