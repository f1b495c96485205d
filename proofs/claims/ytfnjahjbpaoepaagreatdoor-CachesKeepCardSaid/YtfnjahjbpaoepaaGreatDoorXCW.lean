/-
  The functions compute their models.
-/
import Derived.Test.YtfnjahjbpaoepaaGreatDoorXCM
import Derived.Test.YtfnjahjbpaoepaaGreatDoorGt
import Derived.Test.YtfnjahjbpaoepaaGreatDoorStr
import Derived.Test.YtfnjahjbpaoepaaGreatDoorStr2
import Derived.Test.YtfnjahjbpaoepaaGreatDoorGk68
import Derived.Test.YtfnjahjbpaoepaaGreatDoorXCW1
set_option linter.unusedVariables false
set_option linter.unusedSimpArgs false
set_option maxRecDepth 100000
namespace Go.Proofs.YtfnjahjbpaoepaaGreatDoor
open Go.Gk
set_option maxHeartbeats 8000000 in
theorem c_name_Cache_Get {k : Nat} {c : T_name_Cache} {v_at : Int} {name : Str} {kind : Int} {r : (List T_api_Record) × Bool × Int × T_name_Cache} (h : m_name_Cache_Get k c v_at name kind = some r) : EC Tryz.prog 44 [.ptr 1 0, I v_at, S name, I kind] [.row 177 6 c.list.length (c.list.flatMap e_name_kept), .box 167 [I c.most, I c.now, I c.calls, .sl 0 c.list.length]] fun g hp' => g = .tup [.d (Sl e_api_Record r.1), B r.2.1, I r.2.2.1] ∧ hp' = [.row 177 6 r.2.2.2.list.length (r.2.2.2.list.flatMap e_name_kept), .box 167 [I r.2.2.2.most, I r.2.2.2.now, I r.2.2.2.calls, .sl 0 r.2.2.2.list.length]] := by
  refine ec_enterC (Fr.of 0 _) Tryz.func44 rfl (Fr.of_ok _) (Nat.le_of_ble_eq_true rfl) fun _ => ?_
  refine go_in ?_
  unfold m_name_Cache_Get at h
  refine go hΓ 2 rfl ?_
  refine eo_box rfl rfl rfl rfl (Nat.le_of_ble_eq_true rfl) ?_
  refine eo_box rfl rfl rfl rfl (Nat.le_of_ble_eq_true rfl) ?_
  obtain ⟨y1, hy1, h2⟩ := bi_ok h
  refine go_ops hΓ 12 rfl ?_
  refine eo_callF [0, 1] (I y1) [.row 177 6 c.list.length (c.list.flatMap e_name_kept), .box 167 [I c.most, I c.now, I c.calls, .sl 0 c.list.length], .box 9 [S name], .box 3 [I kind]] (callable Tryz.func125 rfl rfl) (c_name_Cache_nameFault hy1) rfl (Nat.le_of_ble_eq_true rfl) rfl rfl rfl rfl rfl rfl rfl rfl rfl rfl ?_
  refine go_ops hΓ 9 rfl ?_
  refine j_cond rfl (fun hb => ?_) (fun hb => ?_)
  · have h3 := cT h2 hb
    refine go hΓ 10 rfl ?_
    refine cv_here ?_
    obtain rfl := Option.some.inj h3
    exact fin_objs hΓ [_, _] (.inr rfl) rfl rfl rfl rfl (.inr ⟨HB.mk rfl, rfl⟩)
  · have h4 := cF h2 hb
    obtain ⟨y5, hy5, h6⟩ := bi_ok h4
    refine go hΓ 6 rfl ?_
    refine eo_callF [0, 1] (.tup []) [.row 177 6 y5.list.length (y5.list.flatMap e_name_kept), .box 167 [I y5.most, I y5.now, I y5.calls, .sl 0 y5.list.length], .box 9 [S name], .box 3 [I kind]] (callable Tryz.func127 rfl rfl) (c_name_Cache_pass hy5) rfl (Nat.le_of_ble_eq_true rfl) rfl rfl rfl rfl rfl rfl rfl rfl rfl rfl ?_
    obtain ⟨y7, hy7, h8⟩ := bi_ok h6
    refine go_ops hΓ 9 rfl ?_
    refine eo_callF [0, 2, 3] (I y7) [.row 177 6 y5.list.length (y5.list.flatMap e_name_kept), .box 167 [I y5.most, I y5.now, I y5.calls, .sl 0 y5.list.length], .box 9 [S name], .box 3 [I kind]] (callable Tryz.func140 rfl rfl) (c_slices_IndexFunc_name_kept_name_kept_3 hy7) rfl (Nat.le_of_ble_eq_true rfl) rfl rfl rfl rfl rfl rfl rfl rfl rfl rfl ?_
    refine go_ops hΓ 10 rfl ?_
    refine j_cond rfl (fun hb => ?_) (fun hb => ?_)
    · have h9 := cT h8 hb
      refine go hΓ 9 rfl ?_
      refine cv_here ?_
      obtain rfl := Option.some.inj h9
      exact fin_objs hΓ [_, _] (.inr rfl) rfl rfl rfl rfl (.inr ⟨HB.mk rfl, rfl⟩)
    · have h10 := cF h8 hb
      obtain ⟨x11, hx11, h12⟩ := bi_ok h10
      have hj13 := getZ_at hx11
      refine go hΓ 9 rfl ?_
      refine eo_o rfl (op_elemRowZ hΓ hx11 rfl rfl rfl rfl rfl rfl) ?_
      refine go_ops hΓ 12 rfl ?_
      refine eo_storeRowZ hΓ (enc := e_name_kept) (z' := (⟨x11.asking, x11.put, x11.life, y5.calls, x11.list⟩ : T_name_kept)) y7.toNat 4 hj13 rfl rfl rfl rfl (fun _ => rfl) rfl rfl rfl rfl rfl rfl (Nat.le_of_ble_eq_true rfl) ?_
      refine eo_hp [.row 177 6 (y5.list.set y7.toNat (⟨x11.asking, x11.put, x11.life, y5.calls, x11.list⟩ : T_name_kept)).length ((y5.list.set y7.toNat (⟨x11.asking, x11.put, x11.life, y5.calls, x11.list⟩ : T_name_kept)).flatMap e_name_kept), .box 167 [I y5.most, I y5.now, I y5.calls, .sl 0 y5.list.length], .box 9 [S name], .box 3 [I kind]] rfl ?_
      refine eo_hp [.row 177 6 (y5.list.set y7.toNat (⟨x11.asking, x11.put, x11.life, y5.calls, x11.list⟩ : T_name_kept)).length ((y5.list.set y7.toNat (⟨x11.asking, x11.put, x11.life, y5.calls, x11.list⟩ : T_name_kept)).flatMap e_name_kept), .box 167 [I y5.most, I y5.now, I y5.calls, .sl 0 (y5.list.set y7.toNat (⟨x11.asking, x11.put, x11.life, y5.calls, x11.list⟩ : T_name_kept)).length], .box 9 [S name], .box 3 [I kind]] (by simp only [List.length_set]) ?_
      have hj14 := set_at (y := (⟨x11.asking, x11.put, x11.life, y5.calls, x11.list⟩ : T_name_kept)) hj13
      refine go_ops hΓ 7 rfl ?_
      refine eo_o rfl (op_loadRowZ hΓ (enc := e_name_kept) y7.toNat 5 hj14 rfl rfl rfl rfl (fun _ => rfl) (g := .d (Sl e_api_Record ((⟨x11.asking, x11.put, x11.life, y5.calls, x11.list⟩ : T_name_kept).list))) rfl) ?_
      obtain ⟨y15, hy15, h16⟩ := bi_ok h12
      refine eo_callF [] (.sl 4 y15.length) [.row 177 6 (y5.list.set y7.toNat (⟨x11.asking, x11.put, x11.life, y5.calls, x11.list⟩ : T_name_kept)).length ((y5.list.set y7.toNat (⟨x11.asking, x11.put, x11.life, y5.calls, x11.list⟩ : T_name_kept)).flatMap e_name_kept), .box 167 [I y5.most, I y5.now, I y5.calls, .sl 0 (y5.list.set y7.toNat (⟨x11.asking, x11.put, x11.life, y5.calls, x11.list⟩ : T_name_kept)).length], .box 9 [S name], .box 3 [I kind], .row 80 8 y15.length (y15.flatMap e_api_Record)] (callable Tryz.func130 rfl rfl) (c_slices_Clone_api_Record_api_Record hy15) rfl (Nat.le_of_ble_eq_true rfl) rfl rfl rfl rfl rfl rfl rfl rfl rfl rfl ?_
      refine go_ops hΓ 11 rfl ?_
      obtain ⟨q20, hq20, h21⟩ := bi_ok h16
      obtain ⟨hb23, h24⟩ := gd_ok hq20
      replace hb23 := of_decide_eq_true hb23
      refine j_cutNZ [(14, .sl 4 q20.length)] [.row 177 6 (y5.list.set y7.toNat (⟨x11.asking, x11.put, x11.life, y5.calls, x11.list⟩ : T_name_kept)).length ((y5.list.set y7.toNat (⟨x11.asking, x11.put, x11.life, y5.calls, x11.list⟩ : T_name_kept)).flatMap e_name_kept), .box 167 [I y5.most, I y5.now, I y5.calls, .sl 0 (y5.list.set y7.toNat (⟨x11.asking, x11.put, x11.life, y5.calls, x11.list⟩ : T_name_kept)).length], .box 9 [S name], .box 3 [I kind], .row 80 8 q20.length (q20.flatMap e_api_Record)] ?_ ?_
      · refine go hΓ 1 rfl ?_
        refine j_rangeG h24 (fun i17 s18 => [(1, I v_at), (13, .ptr 0 (y7.toNat * 6)), (14, .sl 4 s18.length), (54, I (y15.length : Int)), (55, I (i17 : Int))]) (fun s18 => [.row 177 6 (y5.list.set y7.toNat (⟨x11.asking, x11.put, x11.life, y5.calls, x11.list⟩ : T_name_kept)).length ((y5.list.set y7.toNat (⟨x11.asking, x11.put, x11.life, y5.calls, x11.list⟩ : T_name_kept)).flatMap e_name_kept), .box 167 [I y5.most, I y5.now, I y5.calls, .sl 0 (y5.list.set y7.toNat (⟨x11.asking, x11.put, x11.life, y5.calls, x11.list⟩ : T_name_kept)).length], .box 9 [S name], .box 3 [I kind], .row 80 8 s18.length (s18.flatMap e_api_Record)]) ⟨⟨rfl, rfl, rfl, rfl, rfl, trivial⟩, [], rfl, .inl rfl⟩ (fun i17 s18 y28 hlt hy26 => ?_) (fun hge => ?_)
        · refine go hΓ 6 rfl ?_
          refine j_condT rfl (decide_eq_true hlt) ?_
          refine go hΓ 4 rfl ?_
          refine go hΓ 6 rfl ?_
          refine j_drawE [.row 177 6 (y5.list.set y7.toNat (⟨x11.asking, x11.put, x11.life, y5.calls, x11.list⟩ : T_name_kept)).length ((y5.list.set y7.toNat (⟨x11.asking, x11.put, x11.life, y5.calls, x11.list⟩ : T_name_kept)).flatMap e_name_kept), .dead, .dead, .dead, .row 80 8 s18.length (s18.flatMap e_api_Record)] [4, 9] [14] [14] hmix (by kernel_rfl) (by kernel_rfl) ⟨rfl, rfl, trivial⟩ (Nat.le_of_ble_eq_true rfl) ?_
          obtain ⟨x29, hx29, h30⟩ := bi_ok hy26
          have hj31 := getZ_at hx29
          refine go_E hΓ 2 rfl ?_
          refine ge_q rfl (.inl rfl) (fun _ _ => qte_of_qt (qt_p (op_elemRowZ hΓ hx29 rfl rfl rfl rfl rfl rfl))) ?_
          refine go_E hΓ 1 rfl ?_
          refine ge_p rfl (fun hp hs => op_loadRowZ hΓ (enc := e_api_Record) ((i17 : Int).toNat) 7 hj31 rfl rfl rfl (hs 4 _ rfl rfl) (fun _ => rfl) (g := I x29.Life) rfl) rfl ?_
          refine go_E hΓ 4 rfl ?_
          refine ge_p rfl (fun hp hs => op_loadRowZ hΓ (enc := e_name_kept) y7.toNat 2 hj14 rfl rfl rfl (hs 0 _ rfl rfl) (fun _ => rfl) (g := I ((⟨x11.asking, x11.put, x11.life, y5.calls, x11.list⟩ : T_name_kept).put)) rfl) rfl ?_
          obtain ⟨x32, hx32, h33⟩ := bi_ok h30
          have hj34 := getZ_at hx32
          refine go_E hΓ 2 rfl ?_
          refine ge_q rfl (.inl rfl) (fun _ _ => qte_of_qt (qt_p (op_elemRowZ hΓ hx32 rfl rfl rfl rfl rfl rfl))) ?_
          refine go_E hΓ 1 rfl ?_
          refine ge_h0 [.row 177 6 (y5.list.set y7.toNat (⟨x11.asking, x11.put, x11.life, y5.calls, x11.list⟩ : T_name_kept)).length ((y5.list.set y7.toNat (⟨x11.asking, x11.put, x11.life, y5.calls, x11.list⟩ : T_name_kept)).flatMap e_name_kept), .box 167 [I y5.most, I y5.now, I y5.calls, .sl 0 (y5.list.set y7.toNat (⟨x11.asking, x11.put, x11.life, y5.calls, x11.list⟩ : T_name_kept)).length], .box 9 [S name], .box 3 [I kind], .row 80 8 (s18.set ((i17 : Int).toNat) (⟨x32.Name, x32.Kind, x32.Addr, x32.To, x32.Words, wi (x29.Life - (wi (v_at - ((⟨x11.asking, x11.put, x11.life, y5.calls, x11.list⟩ : T_name_kept).put))))⟩ : T_api_Record)).length ((s18.set ((i17 : Int).toNat) (⟨x32.Name, x32.Kind, x32.Addr, x32.To, x32.Words, wi (x29.Life - (wi (v_at - ((⟨x11.asking, x11.put, x11.life, y5.calls, x11.list⟩ : T_name_kept).put))))⟩ : T_api_Record)).flatMap e_api_Record)] rfl rfl (brk_st rfl) (qte_u (opu_storeRowZ hΓ (enc := e_api_Record) (z' := (⟨x32.Name, x32.Kind, x32.Addr, x32.To, x32.Words, wi (x29.Life - (wi (v_at - ((⟨x11.asking, x11.put, x11.life, y5.calls, x11.list⟩ : T_name_kept).put))))⟩ : T_api_Record)) ((i17 : Int).toNat) 7 hj34 rfl rfl rfl rfl (fun _ => rfl) rfl rfl rfl rfl rfl rfl rfl)) ?_
          refine ge_fin ?_
          refine go hΓ 2 rfl ?_
          refine j_relen 14 (n' := (s18.set ((i17 : Int).toNat) (⟨x32.Name, x32.Kind, x32.Addr, x32.To, x32.Words, wi (x29.Life - (wi (v_at - ((⟨x11.asking, x11.put, x11.life, y5.calls, x11.list⟩ : T_name_kept).put))))⟩ : T_api_Record)).length) rfl (by simp) ?_
          refine j_relen 58 (n' := (s18.set ((i17 : Int).toNat) (⟨x32.Name, x32.Kind, x32.Addr, x32.To, x32.Words, wi (x29.Life - (wi (v_at - ((⟨x11.asking, x11.put, x11.life, y5.calls, x11.list⟩ : T_name_kept).put))))⟩ : T_api_Record)).length) rfl (by simp) ?_
          refine go hΓ 4 rfl ?_
          obtain rfl := Option.some.inj h33
          exact ⟨⟨rfl, rfl, rfl, rfl, get_eq rfl (w64_succ (by omega)), trivial⟩, [], rfl, .inl rfl⟩
        · refine go hΓ 6 rfl ?_
          refine j_condF rfl (decide_eq_false hge) ?_
          refine go hΓ 4 rfl ?_
          exact ⟨⟨rfl, trivial⟩, [], rfl, .inl rfl⟩
      · refine go hΓ 5 rfl ?_
        refine eo_shr 4 [8, 14, 73] _ [.row 177 6 (y5.list.set y7.toNat (⟨x11.asking, x11.put, x11.life, y5.calls, x11.list⟩ : T_name_kept)).length ((y5.list.set y7.toNat (⟨x11.asking, x11.put, x11.life, y5.calls, x11.list⟩ : T_name_kept)).flatMap e_name_kept), .box 167 [I y5.most, I y5.now, I y5.calls, .sl 0 (y5.list.set y7.toNat (⟨x11.asking, x11.put, x11.life, y5.calls, x11.list⟩ : T_name_kept)).length], .box 9 [S name], .box 3 [I kind], .dead] rfl rfl rfl (Nat.le_of_ble_eq_true rfl) ?_
        refine go_ops hΓ 5 rfl ?_
        refine cv_here ?_
        obtain rfl := Option.some.inj h21
        exact fin_objs hΓ [_, _, _] (.inr rfl) rfl rfl rfl rfl (.inr ⟨HB.mk rfl, rfl⟩)
set_option maxHeartbeats 8000000 in
theorem c_laneref1_Cache_Get {k : Nat} {c : T_laneref1_Cache} {v_at : Int} {name : Str} {kind : Int} {r : (List T_api_Record) × Bool × Int × T_laneref1_Cache} (h : m_laneref1_Cache_Get k c v_at name kind = some r) : EC Tryz.prog 45 [.ptr 1 0, I v_at, S name, I kind] [.rowv 185 6 c.l.length (c.l.flatMap e_laneref1_kept), .box 170 [I c.most, I c.now, I c.calls, .sv 0 c.l.length]] fun g hp' => g = .tup [.d (Sl e_api_Record r.1), B r.2.1, I r.2.2.1] ∧ hp' = [.rowv 185 6 r.2.2.2.l.length (r.2.2.2.l.flatMap e_laneref1_kept), .box 170 [I r.2.2.2.most, I r.2.2.2.now, I r.2.2.2.calls, .sv 0 r.2.2.2.l.length]] := by
  refine ec_enterC (Fr.of 0 _) Tryz.func45 rfl (Fr.of_ok _) (Nat.le_of_ble_eq_true rfl) fun _ => ?_
  refine go_in ?_
  unfold m_laneref1_Cache_Get at h
  obtain ⟨y1, hy1, h2⟩ := bi_ok h
  refine go hΓ 13 rfl ?_
  refine eo_callF [0, 1] (I y1) [.rowv 185 6 c.l.length (c.l.flatMap e_laneref1_kept), .box 170 [I c.most, I c.now, I c.calls, .sv 0 c.l.length]] (callable Tryz.func132 rfl rfl) (c_laneref1_Cache_callFault hy1) rfl (Nat.le_of_ble_eq_true rfl) rfl rfl rfl rfl rfl rfl rfl rfl rfl rfl ?_
  refine go_ops hΓ 9 rfl ?_
  refine j_cond rfl (fun hb => ?_) (fun hb => ?_)
  · have h3 := cT h2 hb
    refine go hΓ 10 rfl ?_
    refine cv_here ?_
    obtain rfl := Option.some.inj h3
    exact fin_objs hΓ [] (.inr rfl) rfl rfl rfl rfl (.inl rfl)
  · have h4 := cF h2 hb
    obtain ⟨y5, hy5, h6⟩ := bi_ok h4
    refine go hΓ 5 rfl ?_
    refine eo_callP (callable Tryz.func95 rfl rfl) (c_laneref1_Kinds hy5) rfl (Nat.le_of_ble_eq_true rfl) rfl rfl rfl rfl rfl ?_
    obtain ⟨y7, hy7, h8⟩ := bi_ok h6
    refine go_ops hΓ 1 rfl ?_
    refine eo_callP (callable Tryz.func133 rfl rfl) (c_slices_Contains_int_int hy7) rfl (Nat.le_of_ble_eq_true rfl) rfl rfl rfl rfl rfl ?_
    refine go_ops hΓ 3 rfl ?_
    refine j_cond rfl (fun hb => ?_) (fun hb => ?_)
    · have h9 := cT h8 hb
      refine go hΓ 9 rfl ?_
      refine cv_here ?_
      obtain rfl := Option.some.inj h9
      exact fin_objs hΓ [] (.inr rfl) rfl rfl rfl rfl (.inl rfl)
    · have h10 := cF h8 hb
      obtain ⟨y11, hy11, h12⟩ := bi_ok h10
      refine go hΓ 6 rfl ?_
      refine eo_callF [0, 1] (.tup []) [.rowv 185 6 y11.l.length (y11.l.flatMap e_laneref1_kept), .box 170 [I y11.most, I y11.now, I y11.calls, .sv 0 y11.l.length]] (callable Tryz.func134 rfl rfl) (c_laneref1_Cache_drop hy11) rfl (Nat.le_of_ble_eq_true rfl) rfl rfl rfl rfl rfl rfl rfl rfl rfl rfl ?_
      refine go_ops hΓ 13 rfl ?_
      obtain ⟨q16, hq16, h17⟩ := bi_ok h12
      obtain ⟨hb19, h20⟩ := gd_ok hq16
      replace hb19 := of_decide_eq_true hb19
      refine j_cutEZ (R := fun a18 => q16 = .go a18) (fun a18 => []) (fun a18 => [.rowv 185 6 y11.l.length (y11.l.flatMap e_laneref1_kept), .box 170 [I y11.most, I y11.now, I y11.calls, .sv 0 y11.l.length]]) ?_ ?_
      · refine go hΓ 1 rfl ?_
        refine j_rangeI h20 (fun i13 s14 => [(0, .ptr 1 0), (1, I v_at), (2, S name), (3, I kind), (34, .sv 0 y11.l.length), (35, I (y11.l.length : Int)), (36, I (i13 : Int))]) (fun s14 => [.rowv 185 6 y11.l.length (y11.l.flatMap e_laneref1_kept), .box 170 [I y11.most, I y11.now, I y11.calls, .sv 0 y11.l.length]]) ⟨⟨rfl, rfl, rfl, rfl, rfl, rfl, rfl, trivial⟩, [], rfl, .inl rfl⟩ (fun i13 s14 y24 hlt hy22 hout23 => ?_) (fun s14 hgo hge => ?_)
        · refine go hΓ 6 rfl ?_
          refine j_condT rfl (decide_eq_true hlt) ?_
          obtain ⟨x25, hx25, h26⟩ := bi_ok hy22
          have hj27 := getZ_at hx25
          refine go hΓ 7 rfl ?_
          refine eo_o rfl (op_elemRowV hΓ hx25 rfl rfl rfl rfl rfl rfl) ?_
          refine eo_o rfl (op_loadRowV hΓ (enc := e_laneref1_kept) ((i13 : Int).toNat) 0 hj27 rfl rfl rfl rfl (fun _ => rfl) (g := .agg [S x25.name, I x25.kind, I x25.v_at, I x25.v_end, .d (Sl e_api_Record x25.l), I x25.used]) rfl) ?_
          refine eo_alloc hΓ rfl rfl rfl (Nat.le_of_ble_eq_true rfl) ?_
          refine go_ops hΓ 1 rfl ?_
          refine eo_store hΓ rfl rfl rfl rfl rfl rfl rfl rfl (Nat.le_of_ble_eq_true rfl) ?_
          refine eo_hp [.rowv 185 6 y11.l.length (y11.l.flatMap e_laneref1_kept), .box 170 [I y11.most, I y11.now, I y11.calls, .sv 0 y11.l.length], .box 185 [S x25.name, I x25.kind, I x25.v_at, I x25.v_end, .d (Sl e_api_Record x25.l), I x25.used]] rfl ?_
          refine go_ops hΓ 10 rfl ?_
          refine o_cut 5 [(0, .ptr 1 0), (1, I v_at), (2, S name), (3, I kind), (12, I (i13 : Int)), (13, .ptr 2 0), (34, .sv 0 y11.l.length), (35, I (y11.l.length : Int)), (36, I (i13 : Int)), (50, B ((!((x25.name : Str) == name)) || ((x25.kind : Int) != kind)))] [.rowv 185 6 y11.l.length (y11.l.flatMap e_laneref1_kept), .box 170 [I y11.most, I y11.now, I y11.calls, .sv 0 y11.l.length], .box 185 [S x25.name, I x25.kind, I x25.v_at, I x25.v_end, .d (Sl e_api_Record x25.l), I x25.used]] ?_ ?_
          · refine eo_gsplit rfl rfl (fun hb => ?_) (fun hb => ?_)
            · refine go_ops hΓ 6 rfl ?_
              exact ⟨⟨rfl, rfl, rfl, rfl, rfl, rfl, rfl, rfl, rfl, get_b rfl (or_t hb), trivial⟩, [], rfl, .inl rfl⟩
            · refine go_ops hΓ 6 rfl ?_
              exact ⟨⟨rfl, rfl, rfl, rfl, rfl, rfl, rfl, rfl, rfl, get_b rfl (or_f hb), trivial⟩, [], rfl, .inl rfl⟩
          · refine go_ops hΓ 2 rfl ?_
            refine j_cond rfl (fun hb => ?_) (fun hb => ?_)
            · have h28 := cT h26 hb
              refine go hΓ 8 rfl ?_
              obtain rfl := Option.some.inj h28
              exact ⟨_, rfl, ⟨⟨rfl, rfl, rfl, rfl, rfl, rfl, get_eq rfl (w64_succ (by omega)), trivial⟩, [_], rfl, .inr ⟨HB.mk rfl, FB.mk rfl, (Nat.le_of_ble_eq_true rfl)⟩⟩⟩
            · have h29 := cF h26 hb
              refine go hΓ 3 rfl ?_
              refine j_drawE [.dead, .box 170 [I y11.most, I y11.now, I y11.calls, .sv 0 y11.l.length]] [3, 8] [11] [] hmix (by kernel_rfl) (by kernel_rfl) ⟨rfl, trivial⟩ (Nat.le_of_ble_eq_true rfl) ?_
              obtain ⟨x30, hx30, h31⟩ := bi_ok h29
              have hj32 := getZ_at hx30
              refine go_E hΓ 9 rfl ?_
              refine ge_q rfl (.inl rfl) (fun _ _ => qte_of_qt (qt_p (op_elemRowV hΓ hx30 rfl rfl rfl rfl rfl rfl))) ?_
              refine go_E hΓ 1 rfl ?_
              refine ge_h0 [.rowv 185 6 (y11.l.set ((i13 : Int).toNat) (⟨x30.name, x30.kind, x30.v_at, x30.v_end, x30.l, y11.calls⟩ : T_laneref1_kept)).length ((y11.l.set ((i13 : Int).toNat) (⟨x30.name, x30.kind, x30.v_at, x30.v_end, x30.l, y11.calls⟩ : T_laneref1_kept)).flatMap e_laneref1_kept), .box 170 [I y11.most, I y11.now, I y11.calls, .sv 0 y11.l.length], .box 185 [S x25.name, I x25.kind, I x25.v_at, I x25.v_end, .d (Sl e_api_Record x25.l), I x25.used]] rfl rfl (st_st ⟨rfl, trivial⟩) (qte_u (opu_storeRowV hΓ (enc := e_laneref1_kept) (z' := (⟨x30.name, x30.kind, x30.v_at, x30.v_end, x30.l, y11.calls⟩ : T_laneref1_kept)) ((i13 : Int).toNat) 5 hj32 rfl rfl rfl rfl (fun _ => rfl) rfl rfl rfl rfl rfl rfl rfl)) ?_
              refine ge_fin ?_
              refine go hΓ 1 rfl ?_
              refine j_hp [.rowv 185 6 (y11.l.set ((i13 : Int).toNat) (⟨x30.name, x30.kind, x30.v_at, x30.v_end, x30.l, y11.calls⟩ : T_laneref1_kept)).length ((y11.l.set ((i13 : Int).toNat) (⟨x30.name, x30.kind, x30.v_at, x30.v_end, x30.l, y11.calls⟩ : T_laneref1_kept)).flatMap e_laneref1_kept), .box 170 [I y11.most, I y11.now, I y11.calls, .sv 0 (y11.l.set ((i13 : Int).toNat) (⟨x30.name, x30.kind, x30.v_at, x30.v_end, x30.l, y11.calls⟩ : T_laneref1_kept)).length], .box 185 [S x25.name, I x25.kind, I x25.v_at, I x25.v_end, .d (Sl e_api_Record x25.l), I x25.used]] (by simp only [List.length_set]) ?_
              refine j_relenV 34 (n' := (y11.l.set ((i13 : Int).toNat) (⟨x30.name, x30.kind, x30.v_at, x30.v_end, x30.l, y11.calls⟩ : T_laneref1_kept)).length) rfl (by simp) ?_
              refine j_relenV 54 (n' := (y11.l.set ((i13 : Int).toNat) (⟨x30.name, x30.kind, x30.v_at, x30.v_end, x30.l, y11.calls⟩ : T_laneref1_kept)).length) rfl (by simp) ?_
              refine go hΓ 2 rfl ?_
              refine eo_nilOwn (t := 0) 80 8 rfl (Nat.le_of_ble_eq_true rfl) ?_
              refine go_ops hΓ 11 rfl ?_
              obtain ⟨q36, hq36, h37⟩ := bi_ok h31
              refine j_bound 63 rfl fun hb39 => ?_
              refine j_cutNZ [(14, .sl 3 q36.length)] [.rowv 185 6 (y11.l.set ((i13 : Int).toNat) (⟨x30.name, x30.kind, x30.v_at, x30.v_end, x30.l, y11.calls⟩ : T_laneref1_kept)).length ((y11.l.set ((i13 : Int).toNat) (⟨x30.name, x30.kind, x30.v_at, x30.v_end, x30.l, y11.calls⟩ : T_laneref1_kept)).flatMap e_laneref1_kept), .box 170 [I y11.most, I y11.now, I y11.calls, .sv 0 (y11.l.set ((i13 : Int).toNat) (⟨x30.name, x30.kind, x30.v_at, x30.v_end, x30.l, y11.calls⟩ : T_laneref1_kept)).length], .box 185 [S x25.name, I x25.kind, I x25.v_at, I x25.v_end, .d (Sl e_api_Record x25.l), I x25.used], .row 80 8 q36.length (q36.flatMap e_api_Record)] ?_ ?_
              · refine go hΓ 1 rfl ?_
                refine j_rangeF x25.l hq36 (fun i33 s34 => [(1, I v_at), (13, .ptr 2 0), (14, .sl 3 s34.length), (63, .d (Sl e_api_Record x25.l)), (64, I (x25.l.length : Int)), (65, I (i33 : Int))]) (fun s34 => [.rowv 185 6 (y11.l.set ((i13 : Int).toNat) (⟨x30.name, x30.kind, x30.v_at, x30.v_end, x30.l, y11.calls⟩ : T_laneref1_kept)).length ((y11.l.set ((i13 : Int).toNat) (⟨x30.name, x30.kind, x30.v_at, x30.v_end, x30.l, y11.calls⟩ : T_laneref1_kept)).flatMap e_laneref1_kept), .box 170 [I y11.most, I y11.now, I y11.calls, .sv 0 (y11.l.set ((i13 : Int).toNat) (⟨x30.name, x30.kind, x30.v_at, x30.v_end, x30.l, y11.calls⟩ : T_laneref1_kept)).length], .box 185 [S x25.name, I x25.kind, I x25.v_at, I x25.v_end, .d (Sl e_api_Record x25.l), I x25.used], .row 80 8 s34.length (s34.flatMap e_api_Record)]) ⟨⟨rfl, rfl, rfl, rfl, rfl, rfl, trivial⟩, [], rfl, .inl rfl⟩ (fun i33 x35 s34 y43 hx40 hlt hy41 => ?_) (?_)
                · refine go hΓ 6 rfl ?_
                  refine j_condT rfl (decide_eq_true (Int.ofNat_lt.2 hlt)) ?_
                  refine go hΓ 6 rfl ?_
                  refine eo_o rfl (op_elemZ hΓ (enc := e_api_Record) (getZ_nat hx40) rfl rfl rfl rfl rfl (fun _ => rfl)) ?_
                  refine go_ops hΓ 1 rfl ?_
                  refine eo_alloc hΓ rfl rfl rfl (Nat.le_of_ble_eq_true rfl) ?_
                  refine eo_store hΓ rfl rfl rfl rfl rfl rfl rfl rfl (Nat.le_of_ble_eq_true rfl) ?_
                  refine eo_hp [.rowv 185 6 (y11.l.set ((i13 : Int).toNat) (⟨x30.name, x30.kind, x30.v_at, x30.v_end, x30.l, y11.calls⟩ : T_laneref1_kept)).length ((y11.l.set ((i13 : Int).toNat) (⟨x30.name, x30.kind, x30.v_at, x30.v_end, x30.l, y11.calls⟩ : T_laneref1_kept)).flatMap e_laneref1_kept), .box 170 [I y11.most, I y11.now, I y11.calls, .sv 0 (y11.l.set ((i13 : Int).toNat) (⟨x30.name, x30.kind, x30.v_at, x30.v_end, x30.l, y11.calls⟩ : T_laneref1_kept)).length], .box 185 [S x25.name, I x25.kind, I x25.v_at, I x25.v_end, .d (Sl e_api_Record x25.l), I x25.used], .row 80 8 s34.length (s34.flatMap e_api_Record), .box 80 [S x35.Name, I x35.Kind, B x35.Addr.Six, U x35.Addr.Hi, U x35.Addr.Lo, S x35.To, S x35.Words, I x35.Life]] rfl ?_
                  refine go_ops hΓ 12 rfl ?_
                  refine eo_store hΓ rfl rfl rfl rfl rfl rfl rfl rfl (Nat.le_of_ble_eq_true rfl) ?_
                  refine eo_hp [.rowv 185 6 (y11.l.set ((i13 : Int).toNat) (⟨x30.name, x30.kind, x30.v_at, x30.v_end, x30.l, y11.calls⟩ : T_laneref1_kept)).length ((y11.l.set ((i13 : Int).toNat) (⟨x30.name, x30.kind, x30.v_at, x30.v_end, x30.l, y11.calls⟩ : T_laneref1_kept)).flatMap e_laneref1_kept), .box 170 [I y11.most, I y11.now, I y11.calls, .sv 0 (y11.l.set ((i13 : Int).toNat) (⟨x30.name, x30.kind, x30.v_at, x30.v_end, x30.l, y11.calls⟩ : T_laneref1_kept)).length], .box 185 [S x25.name, I x25.kind, I x25.v_at, I x25.v_end, .d (Sl e_api_Record x25.l), I x25.used], .row 80 8 s34.length (s34.flatMap e_api_Record), .box 80 [S x35.Name, I x35.Kind, B x35.Addr.Six, U x35.Addr.Hi, U x35.Addr.Lo, S x35.To, S x35.Words, I (wi (x35.Life - (wi (v_at - x25.v_at))))]] rfl ?_
                  refine go_ops hΓ 5 rfl ?_
                  refine eo_litT hΓ (enc := e_api_Record) [(⟨x35.Name, x35.Kind, x35.Addr, x35.To, x35.Words, wi (x35.Life - (wi (v_at - x25.v_at)))⟩ : T_api_Record)] rfl rfl rfl rfl rfl rfl rfl rfl rfl rfl rfl rfl (Nat.le_of_ble_eq_true rfl) ?_
                  obtain ⟨y44, hy44, h45⟩ := bi_ok hy41
                  refine eo_appendT hΓ (enc := e_api_Record) hy44 rfl rfl rfl rfl rfl rfl rfl rfl rfl (fun _ => rfl) rfl rfl rfl rfl ?_
                  refine go_ops hΓ 8 rfl ?_
                  obtain rfl := Option.some.inj h45
                  exact ⟨⟨rfl, rfl, rfl, rfl, rfl, get_eq rfl (w64_succ (Nat.lt_of_lt_of_le hlt hb39)), trivial⟩, [_], rfl, .inr ⟨HB.mk rfl, FB.mk rfl, (Nat.le_of_ble_eq_true rfl)⟩⟩
                · refine go hΓ 6 rfl ?_
                  refine j_condF rfl (decide_eq_false (Int.lt_irrefl _)) ?_
                  refine go hΓ 4 rfl ?_
                  exact ⟨⟨rfl, trivial⟩, [], rfl, .inl rfl⟩
              · refine go hΓ 5 rfl ?_
                refine eo_shr 3 [8, 14, 82] _ [.rowv 185 6 (y11.l.set ((i13 : Int).toNat) (⟨x30.name, x30.kind, x30.v_at, x30.v_end, x30.l, y11.calls⟩ : T_laneref1_kept)).length ((y11.l.set ((i13 : Int).toNat) (⟨x30.name, x30.kind, x30.v_at, x30.v_end, x30.l, y11.calls⟩ : T_laneref1_kept)).flatMap e_laneref1_kept), .box 170 [I y11.most, I y11.now, I y11.calls, .sv 0 (y11.l.set ((i13 : Int).toNat) (⟨x30.name, x30.kind, x30.v_at, x30.v_end, x30.l, y11.calls⟩ : T_laneref1_kept)).length], .box 185 [S x25.name, I x25.kind, I x25.v_at, I x25.v_end, .d (Sl e_api_Record x25.l), I x25.used], .dead] rfl rfl rfl (Nat.le_of_ble_eq_true rfl) ?_
                refine go_ops hΓ 7 rfl ?_
                obtain ⟨v46, hv46, h47⟩ := bi_ok h37
                obtain rfl := Option.some.inj h47
                obtain rfl := hout23 _ rfl
                obtain rfl := Option.some.inj h17
                refine go hΓ 4 rfl ?_
                refine cv_here ?_
                obtain rfl := Option.some.inj hv46
                exact fin_objs hΓ [_, _] (.inr rfl) rfl rfl rfl rfl (.inr ⟨HB.mk rfl, rfl⟩)
        · subst hgo
          refine go hΓ 6 rfl ?_
          refine j_condF rfl (decide_eq_false hge) ?_
          refine go hΓ 4 rfl ?_
          exact ⟨_, rfl, ⟨trivial, [], rfl, .inl rfl⟩⟩
      · intro a18 ha
        subst ha
        replace h17 := goI_l h17
        refine go hΓ 9 rfl ?_
        refine cv_here ?_
        obtain rfl := Option.some.inj h17
        exact fin_objs hΓ [] (.inr rfl) rfl rfl rfl rfl (.inl rfl)
theorem c_slices_Equal_api_Record_api_Record {s1 : List T_api_Record} {s2 : List T_api_Record} {r : Bool} (h : m_slices_Equal_api_Record_api_Record s1 s2 = some r) : Pure Tryz.prog 46 [.d (Sl e_api_Record s1), .d (Sl e_api_Record s2)] (B r) := by
  refine Pure.enter (Fr.of 0 _) Tryz.func46 rfl (Fr.of_ok _) rfl rfl ?_
  refine go_in ?_
  unfold m_slices_Equal_api_Record_api_Record at h
  refine go hΓ 15 rfl ?_
  refine j_cond rfl (fun hb => ?_) (fun hb => ?_)
  · have h1 := cT h hb
    refine go hΓ 7 rfl ?_
    obtain rfl := Option.some.inj h1
    exact fin_pure hΓ (.inr rfl) rfl rfl
  · have h2 := cF h hb
    refine go hΓ 10 rfl ?_
    obtain ⟨q6, hq6, h7⟩ := bi_ok h2
    refine j_bound 0 rfl fun hb9 => ?_
    refine j_cutEZ (R := fun a8 => q6 = .go a8) (fun a8 => []) (fun a8 => []) ?_ ?_
    · refine go hΓ 1 rfl ?_
      refine j_range s1 hq6 (fun i3 s4 => [(0, .d (Sl e_api_Record s1)), (1, .d (Sl e_api_Record s2)), (12, I (s1.length : Int)), (13, I (i3 : Int))]) (fun s4 => []) ⟨⟨rfl, rfl, rfl, rfl, trivial⟩, [], rfl, .inl rfl⟩ (fun i3 x5 s4 y13 hx10 hlt hy11 hout12 => ?_) (fun s4 hgo => ?_)
      · refine go hΓ 6 rfl ?_
        refine j_condT rfl (decide_eq_true (Int.ofNat_lt.2 hlt)) ?_
        refine go hΓ 11 rfl ?_
        refine j_draw hmix (by kernel_rfl) ?_
        refine go hΓ 2 rfl ?_
        refine gl_o rfl (op_elemZ hΓ (enc := e_api_Record) (getZ_nat hx10) rfl rfl rfl rfl rfl (fun _ => rfl)) ?_
        obtain ⟨x14, hx14, h15⟩ := bi_ok hy11
        refine go_draw hΓ 3 rfl ?_
        refine gl_o rfl (op_elemZ hΓ (enc := e_api_Record) hx14 rfl rfl rfl rfl rfl (fun _ => rfl)) ?_
        refine go_draw hΓ 1 rfl ?_
        refine gl_o rfl (op_neS hΓ [80, 39] (b := (((x5.Name : Str) == x14.Name) && (((x5.Kind : Int) == x14.Kind) && ((((x5.Addr.Six : Bool) == x14.Addr.Six) && (((x5.Addr.Hi : Int) == x14.Addr.Hi) && (((x5.Addr.Lo : Int) == x14.Addr.Lo) && true))) && (((x5.To : Str) == x14.To) && (((x5.Words : Str) == x14.Words) && (((x5.Life : Int) == x14.Life) && true))))))) (by kernel_rfl) (by kernel_rfl) rfl rfl rfl) ?_
        refine go_draw hΓ 2 rfl ?_
        refine j_cond rfl (fun hb => ?_) (fun hb => ?_)
        · have h16 := cT h15 hb
          refine go hΓ 8 rfl ?_
          obtain ⟨v17, hv17, h18⟩ := bi_ok h16
          obtain rfl := Option.some.inj h18
          obtain rfl := hout12 _ rfl
          obtain rfl := Option.some.inj h7
          refine go hΓ 4 rfl ?_
          obtain rfl := Option.some.inj hv17
          exact fin_pure hΓ (.inr rfl) rfl rfl
        · have h19 := cF h15 hb
          refine go hΓ 7 rfl ?_
          obtain rfl := Option.some.inj h19
          exact ⟨_, rfl, ⟨⟨rfl, rfl, rfl, get_eq rfl (w64_succ (Nat.lt_of_lt_of_le hlt hb9)), trivial⟩, [], rfl, .inl rfl⟩⟩
      · subst hgo
        refine go hΓ 6 rfl ?_
        refine j_condF rfl (decide_eq_false (Int.lt_irrefl _)) ?_
        refine go hΓ 4 rfl ?_
        exact ⟨_, rfl, ⟨trivial, [], rfl, .inl rfl⟩⟩
    · intro a8 ha
      subst ha
      replace h7 := goI_l h7
      refine go hΓ 7 rfl ?_
      obtain rfl := Option.some.inj h7
      exact fin_pure hΓ (.inr rfl) rfl rfl
theorem c_name_under {name : Str} {zone : Str} {r : Bool} (h : m_name_under name zone = some r) : Pure Tryz.prog 144 [S name, S zone] (B r) := by
  refine Pure.enter (Fr.of 0 _) Tryz.func144 rfl (Fr.of_ok _) rfl rfl ?_
  refine go_in ?_
  unfold m_name_under at h
  refine go hΓ 11 rfl ?_
  obtain ⟨q1, hq1, h2⟩ := bi_ok h
  refine o_cut 5 [(4, B false), (13, B q1)] [] ?_ ?_
  · refine eo_gsplit rfl rfl (fun hb => ?_) (fun hb => ?_)
    · have h3 := cT hq1 hb
      refine go_ops hΓ 6 rfl ?_
      obtain rfl := Option.some.inj h3
      exact ⟨⟨rfl, rfl, trivial⟩, [], rfl, .inl rfl⟩
    · have h4 := cF hq1 hb
      obtain ⟨y5, hy5, h6⟩ := bi_ok h4
      refine go_ops hΓ 2 rfl ?_
      refine eo_guard rfl ?_
      refine eo_o rfl (op_catZ hy5 rfl rfl) ?_
      obtain ⟨y7, hy7, h8⟩ := bi_ok h6
      refine eo_guard rfl ?_
      refine eo_callP (callable Tryz.func181 rfl rfl) (c_strings_HasSuffix hy7) rfl (Nat.le_of_ble_eq_true rfl) rfl rfl rfl rfl rfl ?_
      refine go_ops hΓ 2 rfl ?_
      obtain rfl := Option.some.inj h8
      exact ⟨⟨rfl, rfl, trivial⟩, [], rfl, .inl rfl⟩
  · refine go_ops hΓ 4 rfl ?_
    obtain rfl := Option.some.inj h2
    exact fin_pure hΓ (.inr rfl) rfl rfl
theorem c_name_Cache_Drop_1 {v_k : T_name_kept} {x : Str} {r : Bool} (h : m_name_Cache_Drop_1 v_k x = some r) : EC Tryz.prog 143 [.agg [S v_k.asking.name, I v_k.asking.kind, I v_k.put, I v_k.life, I v_k.used, .d (Sl e_api_Record v_k.list)], .ptr 0 0] [.box 9 [S x]] fun g hp' => g = B r ∧ hp' = [.box 9 [S x]] := by
  refine ec_enter (Fr.of 0 _) Tryz.func143 rfl (Fr.of_ok _) (Nat.le_of_ble_eq_true rfl) fun _ => ?_
  refine go_in ?_
  unfold m_name_Cache_Drop_1 at h
  refine go hΓ 2 rfl ?_
  refine eo_box rfl rfl rfl rfl (Nat.le_of_ble_eq_true rfl) ?_
  obtain ⟨y1, hy1, h2⟩ := bi_ok h
  refine go_ops hΓ 9 rfl ?_
  refine eo_callP (callable Tryz.func144 rfl rfl) (c_name_under hy1) rfl (Nat.le_of_ble_eq_true rfl) rfl rfl rfl rfl rfl ?_
  refine go_ops hΓ 4 rfl ?_
  obtain rfl := Option.some.inj h2
  exact fin_objs hΓ [_] (.inr rfl) rfl rfl rfl rfl (.inr ⟨HB.mk rfl, rfl⟩)
theorem c_slices_IndexFunc_name_kept_name_kept_4 {s : List T_name_kept} {f : Str} {r : Int} (h : m_slices_IndexFunc_name_kept_name_kept_4 s f = some r) : EC Tryz.prog 140 [.sl 0 s.length, .fn (.func 143) [] [.ptr 1 0]] [.row 177 6 s.length (s.flatMap e_name_kept), .box 9 [S f]] fun g hp' => g = I r ∧ hp' = [.row 177 6 s.length (s.flatMap e_name_kept), .box 9 [S f]] := by
  refine ec_enter (Fr.of 0 _) Tryz.func140 rfl (Fr.of_ok _) (Nat.le_of_ble_eq_true rfl) fun _ => ?_
  refine go_in ?_
  unfold m_slices_IndexFunc_name_kept_name_kept_4 at h
  refine go hΓ 13 rfl ?_
  obtain ⟨q4, hq4, h5⟩ := bi_ok h
  obtain ⟨hb7, h8⟩ := gd_ok hq4
  replace hb7 := of_decide_eq_true hb7
  refine j_cutEZ (R := fun a6 => q4 = .go a6) (fun a6 => []) (fun a6 => [.row 177 6 s.length (s.flatMap e_name_kept), .box 9 [S f]]) ?_ ?_
  · refine go hΓ 1 rfl ?_
    refine j_rangeI h8 (fun i1 s2 => [(0, .sl 0 s.length), (1, .fn (.func 143) [] [.ptr 1 0]), (7, I (s.length : Int)), (8, I (i1 : Int))]) (fun s2 => [.row 177 6 s.length (s.flatMap e_name_kept), .box 9 [S f]]) ⟨⟨rfl, rfl, rfl, rfl, trivial⟩, [], rfl, .inl rfl⟩ (fun i1 s2 y12 hlt hy10 hout11 => ?_) (fun s2 hgo hge => ?_)
    · refine go hΓ 6 rfl ?_
      refine j_condT rfl (decide_eq_true hlt) ?_
      obtain ⟨x13, hx13, h14⟩ := bi_ok hy10
      have hj15 := getZ_at hx13
      refine go hΓ 15 rfl ?_
      refine eo_o rfl (op_elemRowZ hΓ hx13 rfl rfl rfl rfl rfl rfl) ?_
      refine eo_o rfl (op_loadRowZ hΓ (enc := e_name_kept) ((i1 : Int).toNat) 0 hj15 rfl rfl rfl rfl (fun _ => rfl) (g := .agg [S x13.asking.name, I x13.asking.kind, I x13.put, I x13.life, I x13.used, .d (Sl e_api_Record x13.list)]) rfl) ?_
      obtain ⟨y16, hy16, h17⟩ := bi_ok h14
      refine eo_callF [1] (B y16) [.row 177 6 s.length (s.flatMap e_name_kept), .box 9 [S f]] (callable Tryz.func143 rfl rfl) (c_name_Cache_Drop_1 hy16) rfl (Nat.le_of_ble_eq_true rfl) rfl rfl rfl rfl rfl rfl rfl rfl rfl rfl ?_
      refine go_ops hΓ 2 rfl ?_
      refine j_cond rfl (fun hb => ?_) (fun hb => ?_)
      · have h18 := cT h17 hb
        refine go hΓ 9 rfl ?_
        obtain ⟨v19, hv19, h20⟩ := bi_ok h18
        obtain rfl := Option.some.inj h20
        obtain rfl := hout11 _ rfl
        obtain rfl := Option.some.inj h5
        refine go hΓ 4 rfl ?_
        obtain rfl := Option.some.inj hv19
        exact fin_objs hΓ [] (.inr rfl) rfl rfl rfl rfl (.inl rfl)
      · have h21 := cF h17 hb
        refine go hΓ 7 rfl ?_
        obtain rfl := Option.some.inj h21
        exact ⟨_, rfl, ⟨⟨rfl, rfl, rfl, get_eq rfl (w64_succ (by omega)), trivial⟩, [], rfl, .inl rfl⟩⟩
    · subst hgo
      refine go hΓ 6 rfl ?_
      refine j_condF rfl (decide_eq_false hge) ?_
      refine go hΓ 4 rfl ?_
      exact ⟨_, rfl, ⟨trivial, [], rfl, .inl rfl⟩⟩
  · intro a6 ha
    subst ha
    replace h5 := goI_l h5
    refine go hΓ 7 rfl ?_
    obtain rfl := Option.some.inj h5
    exact fin_objs hΓ [] (.inr rfl) rfl rfl rfl rfl (.inl rfl)
set_option maxHeartbeats 8000000 in
theorem c_slices_DeleteFunc_name_kept_name_kept_3 {k : Nat} {s : List T_name_kept} {f : Str} {r : List T_name_kept} (h : m_slices_DeleteFunc_name_kept_name_kept_3 k s f = some r) : EC Tryz.prog 128 [.sl 0 s.length, .fn (.func 143) [] [.ptr 1 0]] [.row 177 6 s.length (s.flatMap e_name_kept), .box 9 [S f]] fun g hp' => g = .sl 0 r.length ∧ hp' = [.row 177 6 r.length (r.flatMap e_name_kept), .box 9 [S f]] := by
  refine ec_enter (Fr.of 0 _) Tryz.func128 rfl (Fr.of_ok _) (Nat.le_of_ble_eq_true rfl) fun _ => ?_
  refine go_in ?_
  unfold m_slices_DeleteFunc_name_kept_name_kept_3 at h
  refine go hΓ 2 rfl ?_
  refine eo_nilOwn (t := 0) 177 6 rfl (Nat.le_of_ble_eq_true rfl) ?_
  obtain ⟨y1, hy1, h2⟩ := bi_ok h
  refine go_ops hΓ 6 rfl ?_
  refine eo_callF [0, 1] (I y1) [.row 177 6 s.length (s.flatMap e_name_kept), .box 9 [S f], .row 177 6 ([] : List T_name_kept).length (([] : List T_name_kept).flatMap e_name_kept)] (callable Tryz.func140 rfl rfl) (c_slices_IndexFunc_name_kept_name_kept_4 hy1) rfl (Nat.le_of_ble_eq_true rfl) rfl rfl rfl rfl rfl rfl rfl rfl rfl rfl ?_
  refine go_ops hΓ 10 rfl ?_
  refine j_cond rfl (fun hb => ?_) (fun hb => ?_)
  · have h3 := cT h2 hb
    refine go hΓ 8 rfl ?_
    obtain rfl := Option.some.inj h3
    exact fin_objs hΓ [_] (.inr rfl) rfl rfl rfl rfl (.inr ⟨HB.mk rfl, rfl⟩)
  · have h4 := cF h2 hb
    refine go hΓ 10 rfl ?_
    obtain ⟨q8, hq8, h9⟩ := bi_ok h4
    refine j_cutNZ [(0, .sl 0 q8.1.length), (5, I q8.2)] [.row 177 6 q8.1.length (q8.1.flatMap e_name_kept), .box 9 [S f], .row 177 6 ([] : List T_name_kept).length (([] : List T_name_kept).flatMap e_name_kept)] ?_ ?_
    · refine go hΓ 1 rfl ?_
      refine j_loop hq8 (fun s6 => [(0, .sl 0 s6.1.length), (1, .fn (.func 143) [] [.ptr 1 0]), (5, I s6.2.1), (6, I s6.2.2)]) (fun s6 => [.row 177 6 s6.1.length (s6.1.flatMap e_name_kept), .box 9 [S f], .row 177 6 ([] : List T_name_kept).length (([] : List T_name_kept).flatMap e_name_kept)]) ⟨⟨rfl, rfl, rfl, rfl, trivial⟩, [], rfl, .inl rfl⟩ (fun s6 y14 hy12 hout13 => ?_)
      refine go hΓ 9 rfl ?_
      refine j_cond rfl (fun hb => ?_) (fun hb => ?_)
      · have h15 := cT hy12 hb
        obtain ⟨x16, hx16, h17⟩ := bi_ok h15
        have hj18 := getZ_at hx16
        refine go hΓ 8 rfl ?_
        refine eo_o rfl (op_elemRowZ hΓ hx16 rfl rfl rfl rfl rfl rfl) ?_
        refine eo_o rfl (op_loadRowZ hΓ (enc := e_name_kept) s6.2.2.toNat 0 hj18 rfl rfl rfl rfl (fun _ => rfl) (g := .agg [S x16.asking.name, I x16.asking.kind, I x16.put, I x16.life, I x16.used, .d (Sl e_api_Record x16.list)]) rfl) ?_
        refine eo_alloc hΓ rfl rfl rfl (Nat.le_of_ble_eq_true rfl) ?_
        refine eo_store hΓ rfl rfl rfl rfl rfl rfl rfl rfl (Nat.le_of_ble_eq_true rfl) ?_
        refine eo_hp [.row 177 6 s6.1.length (s6.1.flatMap e_name_kept), .box 9 [S f], .row 177 6 ([] : List T_name_kept).length (([] : List T_name_kept).flatMap e_name_kept), .box 177 [S x16.asking.name, I x16.asking.kind, I x16.put, I x16.life, I x16.used, .d (Sl e_api_Record x16.list)]] rfl ?_
        obtain ⟨y19, hy19, h20⟩ := bi_ok h17
        refine go_ops hΓ 6 rfl ?_
        refine eo_callF [1] (B y19) [.row 177 6 s6.1.length (s6.1.flatMap e_name_kept), .box 9 [S f], .row 177 6 ([] : List T_name_kept).length (([] : List T_name_kept).flatMap e_name_kept), .box 177 [S x16.asking.name, I x16.asking.kind, I x16.put, I x16.life, I x16.used, .d (Sl e_api_Record x16.list)]] (callable Tryz.func143 rfl rfl) (c_name_Cache_Drop_1 hy19) rfl (Nat.le_of_ble_eq_true rfl) rfl rfl rfl rfl rfl rfl rfl rfl rfl rfl ?_
        refine go_ops hΓ 3 rfl ?_
        refine j_cond rfl (fun hb => ?_) (fun hb => ?_)
        · have h21 := cT h20 hb
          obtain ⟨x22, hx22, h23⟩ := bi_ok h21
          have hj24 := getZ_at hx22
          refine go hΓ 5 rfl ?_
          refine eo_o rfl (op_elemRowZ hΓ hx22 rfl rfl rfl rfl rfl rfl) ?_
          refine eo_storeRowZ hΓ (enc := e_name_kept) (z' := x16) s6.2.1.toNat 0 hj24 rfl rfl rfl rfl (fun _ => rfl) rfl rfl rfl rfl rfl rfl (Nat.le_of_ble_eq_true rfl) ?_
          refine eo_hp [.row 177 6 (s6.1.set s6.2.1.toNat x16).length ((s6.1.set s6.2.1.toNat x16).flatMap e_name_kept), .box 9 [S f], .row 177 6 ([] : List T_name_kept).length (([] : List T_name_kept).flatMap e_name_kept), .box 177 [S x16.asking.name, I x16.asking.kind, I x16.put, I x16.life, I x16.used, .d (Sl e_api_Record x16.list)]] rfl ?_
          refine eo_relen 0 (n' := (s6.1.set s6.2.1.toNat x16).length) rfl List.length_set.symm ?_
          refine go_ops hΓ 14 rfl ?_
          obtain rfl := Option.some.inj h23
          exact ⟨_, rfl, ⟨⟨rfl, rfl, rfl, rfl, trivial⟩, [_], rfl, .inr ⟨HB.mk rfl, FB.mk rfl, (Nat.le_of_ble_eq_true rfl)⟩⟩⟩
        · have h25 := cF h20 hb
          refine go hΓ 8 rfl ?_
          obtain rfl := Option.some.inj h25
          exact ⟨_, rfl, ⟨⟨rfl, rfl, rfl, rfl, trivial⟩, [_], rfl, .inr ⟨HB.mk rfl, FB.mk rfl, (Nat.le_of_ble_eq_true rfl)⟩⟩⟩
      · have h26 := cF hy12 hb
        refine go hΓ 4 rfl ?_
        obtain rfl := Option.some.inj h26
        obtain rfl := hout13 _ rfl
        exact ⟨⟨rfl, rfl, trivial⟩, [], rfl, .inl rfl⟩
    · obtain ⟨z27, hz27, h28⟩ := bi_ok h9
      refine go hΓ 5 rfl ?_
      refine eo_o rfl (op_viewI hΓ hz27 rfl rfl rfl rfl rfl rfl) ?_
      refine eo_s0 (Nat.le_of_ble_eq_true rfl) (ops_clearT hΓ (enc := e_name_kept) (a := q8.2) hz27 rfl rfl rfl rfl rfl rfl rfl rfl rfl rfl (fun _ => rfl)) ?_
      refine go_ops hΓ 6 rfl ?_
      refine eo_subCut hΓ hz27 rfl rfl rfl rfl rfl rfl rfl rfl ?_
      refine go_ops hΓ 4 rfl ?_
      obtain rfl := Option.some.inj h28
      exact fin_objs hΓ [_] (.inr rfl) rfl rfl rfl rfl (.inr ⟨HB.mk rfl, rfl⟩)
theorem c_name_Cache_Drop {k : Nat} {c : T_name_Cache} {v_at : Int} {zone : Str} {r : Int × Int × T_name_Cache} (h : m_name_Cache_Drop k c v_at zone = some r) : EC Tryz.prog 47 [.ptr 1 0, I v_at, S zone] [.row 177 6 c.list.length (c.list.flatMap e_name_kept), .box 167 [I c.most, I c.now, I c.calls, .sl 0 c.list.length]] fun g hp' => g = .tup [I r.1, I r.2.1] ∧ hp' = [.row 177 6 r.2.2.list.length (r.2.2.list.flatMap e_name_kept), .box 167 [I r.2.2.most, I r.2.2.now, I r.2.2.calls, .sl 0 r.2.2.list.length]] := by
  refine ec_enterC (Fr.of 0 _) Tryz.func47 rfl (Fr.of_ok _) (Nat.le_of_ble_eq_true rfl) fun _ => ?_
  refine go_in ?_
  unfold m_name_Cache_Drop at h
  refine go hΓ 2 rfl ?_
  refine eo_box rfl rfl rfl rfl (Nat.le_of_ble_eq_true rfl) ?_
  obtain ⟨y1, hy1, h2⟩ := bi_ok h
  refine go_ops hΓ 9 rfl ?_
  refine eo_callF [0, 1] (I y1) [.row 177 6 c.list.length (c.list.flatMap e_name_kept), .box 167 [I c.most, I c.now, I c.calls, .sl 0 c.list.length], .box 9 [S zone]] (callable Tryz.func142 rfl rfl) (c_name_Cache_timeFault hy1) rfl (Nat.le_of_ble_eq_true rfl) rfl rfl rfl rfl rfl rfl rfl rfl rfl rfl ?_
  refine go_ops hΓ 9 rfl ?_
  refine j_cond rfl (fun hb => ?_) (fun hb => ?_)
  · have h3 := cT h2 hb
    refine go hΓ 9 rfl ?_
    refine cv_here ?_
    obtain rfl := Option.some.inj h3
    exact fin_objs hΓ [_] (.inr rfl) rfl rfl rfl rfl (.inr ⟨HB.mk rfl, rfl⟩)
  · have h4 := cF h2 hb
    obtain ⟨y5, hy5, h6⟩ := bi_ok h4
    refine go hΓ 6 rfl ?_
    refine eo_callP (callable Tryz.func102 rfl rfl) (c_name_CheckDomain hy5) rfl (Nat.le_of_ble_eq_true rfl) rfl rfl rfl rfl rfl ?_
    refine go_ops hΓ 9 rfl ?_
    refine j_cond rfl (fun hb => ?_) (fun hb => ?_)
    · have h7 := cT h6 hb
      refine go hΓ 9 rfl ?_
      refine cv_here ?_
      obtain rfl := Option.some.inj h7
      exact fin_objs hΓ [_] (.inr rfl) rfl rfl rfl rfl (.inr ⟨HB.mk rfl, rfl⟩)
    · have h8 := cF h6 hb
      obtain ⟨y9, hy9, h10⟩ := bi_ok h8
      refine go hΓ 6 rfl ?_
      refine eo_callF [0, 1] (.tup []) [.row 177 6 y9.list.length (y9.list.flatMap e_name_kept), .box 167 [I y9.most, I y9.now, I y9.calls, .sl 0 y9.list.length], .box 9 [S zone]] (callable Tryz.func127 rfl rfl) (c_name_Cache_pass hy9) rfl (Nat.le_of_ble_eq_true rfl) rfl rfl rfl rfl rfl rfl rfl rfl rfl rfl ?_
      obtain ⟨y11, hy11, h12⟩ := bi_ok h10
      refine go_ops hΓ 20 rfl ?_
      refine eo_forg 0 [.row 177 6 y9.list.length (y9.list.flatMap e_name_kept), .box 167 [I y9.most, I y9.now, I y9.calls, .junk], .box 9 [S zone]] rfl (Nat.le_of_ble_eq_true rfl) ?_
      refine eo_callF [0, 2] (.sl 0 y11.length) [.row 177 6 y11.length (y11.flatMap e_name_kept), .box 167 [I y9.most, I y9.now, I y9.calls, .junk], .box 9 [S zone]] (callable Tryz.func128 rfl rfl) (c_slices_DeleteFunc_name_kept_name_kept_3 hy11) rfl (Nat.le_of_ble_eq_true rfl) rfl rfl rfl rfl rfl rfl rfl rfl rfl rfl ?_
      refine go_ops hΓ 2 rfl ?_
      refine eo_store hΓ rfl rfl rfl rfl rfl rfl rfl rfl (Nat.le_of_ble_eq_true rfl) ?_
      refine eo_hp [.row 177 6 y11.length (y11.flatMap e_name_kept), .box 167 [I y9.most, I y9.now, I y9.calls, .sl 0 y11.length], .box 9 [S zone]] rfl ?_
      refine go_ops hΓ 16 rfl ?_
      refine cv_here ?_
      obtain rfl := Option.some.inj h12
      exact fin_objs hΓ [_] (.inr rfl) rfl rfl rfl rfl (.inr ⟨HB.mk rfl, rfl⟩)
theorem c_laneref1_IsUnder {name : Str} {zone : Str} {r : Bool} (h : m_laneref1_IsUnder name zone = some r) : Pure Tryz.prog 89 [S name, S zone] (B r) := by
  refine Pure.enter (Fr.of 0 _) Tryz.func89 rfl (Fr.of_ok _) rfl rfl ?_
  refine go_in ?_
  unfold m_laneref1_IsUnder at h
  refine go hΓ 11 rfl ?_
  obtain ⟨q1, hq1, h2⟩ := bi_ok h
  refine o_cut 5 [(4, B false), (13, B q1)] [] ?_ ?_
  · refine eo_gsplit rfl rfl (fun hb => ?_) (fun hb => ?_)
    · have h3 := cT hq1 hb
      refine go_ops hΓ 6 rfl ?_
      obtain rfl := Option.some.inj h3
      exact ⟨⟨rfl, rfl, trivial⟩, [], rfl, .inl rfl⟩
    · have h4 := cF hq1 hb
      obtain ⟨y5, hy5, h6⟩ := bi_ok h4
      refine go_ops hΓ 2 rfl ?_
      refine eo_guard rfl ?_
      refine eo_o rfl (op_catZ hy5 rfl rfl) ?_
      obtain ⟨y7, hy7, h8⟩ := bi_ok h6
      refine eo_guard rfl ?_
      refine eo_callP (callable Tryz.func181 rfl rfl) (c_strings_HasSuffix hy7) rfl (Nat.le_of_ble_eq_true rfl) rfl rfl rfl rfl rfl ?_
      refine go_ops hΓ 2 rfl ?_
      obtain rfl := Option.some.inj h8
      exact ⟨⟨rfl, rfl, trivial⟩, [], rfl, .inl rfl⟩
  · refine go_ops hΓ 4 rfl ?_
    obtain rfl := Option.some.inj h2
    exact fin_pure hΓ (.inr rfl) rfl rfl
theorem c_laneref1_Cache_Drop_1 {v_k : T_laneref1_kept} {x : Str} {r : Bool} (h : m_laneref1_Cache_Drop_1 v_k x = some r) : EC Tryz.prog 145 [.agg [S v_k.name, I v_k.kind, I v_k.v_at, I v_k.v_end, .d (Sl e_api_Record v_k.l), I v_k.used], .ptr 0 0] [.box 9 [S x]] fun g hp' => g = B r ∧ hp' = [.box 9 [S x]] := by
  refine ec_enter (Fr.of 0 _) Tryz.func145 rfl (Fr.of_ok _) (Nat.le_of_ble_eq_true rfl) fun _ => ?_
  refine go_in ?_
  unfold m_laneref1_Cache_Drop_1 at h
  refine go hΓ 2 rfl ?_
  refine eo_box rfl rfl rfl rfl (Nat.le_of_ble_eq_true rfl) ?_
  obtain ⟨y1, hy1, h2⟩ := bi_ok h
  refine go_ops hΓ 8 rfl ?_
  refine eo_callP (callable Tryz.func89 rfl rfl) (c_laneref1_IsUnder hy1) rfl (Nat.le_of_ble_eq_true rfl) rfl rfl rfl rfl rfl ?_
  refine go_ops hΓ 4 rfl ?_
  obtain rfl := Option.some.inj h2
  exact fin_objs hΓ [_] (.inr rfl) rfl rfl rfl rfl (.inr ⟨HB.mk rfl, rfl⟩)
theorem c_slices_IndexFunc_laneref1_kept_laneref1_kept_3 {s : List T_laneref1_kept} {f : Str} {r : Int} (h : m_slices_IndexFunc_laneref1_kept_laneref1_kept_3 s f = some r) : EC Tryz.prog 223 [.sv 0 s.length, .fn (.func 145) [] [.ptr 1 0]] [.rowv 185 6 s.length (s.flatMap e_laneref1_kept), .box 9 [S f]] fun g hp' => g = I r ∧ hp' = [.rowv 185 6 s.length (s.flatMap e_laneref1_kept), .box 9 [S f]] := by
  refine ec_enter (Fr.of 0 _) Tryz.func223 rfl (Fr.of_ok _) (Nat.le_of_ble_eq_true rfl) fun _ => ?_
  refine go_in ?_
  unfold m_slices_IndexFunc_laneref1_kept_laneref1_kept_3 at h
  refine go hΓ 13 rfl ?_
  obtain ⟨q4, hq4, h5⟩ := bi_ok h
  obtain ⟨hb7, h8⟩ := gd_ok hq4
  replace hb7 := of_decide_eq_true hb7
  refine j_cutEZ (R := fun a6 => q4 = .go a6) (fun a6 => []) (fun a6 => [.rowv 185 6 s.length (s.flatMap e_laneref1_kept), .box 9 [S f]]) ?_ ?_
  · refine go hΓ 1 rfl ?_
    refine j_rangeI h8 (fun i1 s2 => [(0, .sv 0 s.length), (1, .fn (.func 145) [] [.ptr 1 0]), (7, I (s.length : Int)), (8, I (i1 : Int))]) (fun s2 => [.rowv 185 6 s.length (s.flatMap e_laneref1_kept), .box 9 [S f]]) ⟨⟨rfl, rfl, rfl, rfl, trivial⟩, [], rfl, .inl rfl⟩ (fun i1 s2 y12 hlt hy10 hout11 => ?_) (fun s2 hgo hge => ?_)
    · refine go hΓ 6 rfl ?_
      refine j_condT rfl (decide_eq_true hlt) ?_
      obtain ⟨x13, hx13, h14⟩ := bi_ok hy10
      have hj15 := getZ_at hx13
      refine go hΓ 15 rfl ?_
      refine eo_o rfl (op_elemRowV hΓ hx13 rfl rfl rfl rfl rfl rfl) ?_
      refine eo_o rfl (op_loadRowV hΓ (enc := e_laneref1_kept) ((i1 : Int).toNat) 0 hj15 rfl rfl rfl rfl (fun _ => rfl) (g := .agg [S x13.name, I x13.kind, I x13.v_at, I x13.v_end, .d (Sl e_api_Record x13.l), I x13.used]) rfl) ?_
      obtain ⟨y16, hy16, h17⟩ := bi_ok h14
      refine eo_callF [1] (B y16) [.rowv 185 6 s.length (s.flatMap e_laneref1_kept), .box 9 [S f]] (callable Tryz.func145 rfl rfl) (c_laneref1_Cache_Drop_1 hy16) rfl (Nat.le_of_ble_eq_true rfl) rfl rfl rfl rfl rfl rfl rfl rfl rfl rfl ?_
      refine go_ops hΓ 2 rfl ?_
      refine j_cond rfl (fun hb => ?_) (fun hb => ?_)
      · have h18 := cT h17 hb
        refine go hΓ 9 rfl ?_
        obtain ⟨v19, hv19, h20⟩ := bi_ok h18
        obtain rfl := Option.some.inj h20
        obtain rfl := hout11 _ rfl
        obtain rfl := Option.some.inj h5
        refine go hΓ 4 rfl ?_
        obtain rfl := Option.some.inj hv19
        exact fin_objs hΓ [] (.inr rfl) rfl rfl rfl rfl (.inl rfl)
      · have h21 := cF h17 hb
        refine go hΓ 7 rfl ?_
        obtain rfl := Option.some.inj h21
        exact ⟨_, rfl, ⟨⟨rfl, rfl, rfl, get_eq rfl (w64_succ (by omega)), trivial⟩, [], rfl, .inl rfl⟩⟩
    · subst hgo
      refine go hΓ 6 rfl ?_
      refine j_condF rfl (decide_eq_false hge) ?_
      refine go hΓ 4 rfl ?_
      exact ⟨_, rfl, ⟨trivial, [], rfl, .inl rfl⟩⟩
  · intro a6 ha
    subst ha
    replace h5 := goI_l h5
    refine go hΓ 7 rfl ?_
    obtain rfl := Option.some.inj h5
    exact fin_objs hΓ [] (.inr rfl) rfl rfl rfl rfl (.inl rfl)
set_option maxHeartbeats 8000000 in
theorem c_slices_DeleteFunc_laneref1_kept_laneref1_kept_3 {k : Nat} {s : List T_laneref1_kept} {f : Str} {r : List T_laneref1_kept} (h : m_slices_DeleteFunc_laneref1_kept_laneref1_kept_3 k s f = some r) : EC Tryz.prog 135 [.sv 0 s.length, .fn (.func 145) [] [.ptr 1 0]] [.rowv 185 6 s.length (s.flatMap e_laneref1_kept), .box 9 [S f]] fun g hp' => g = .sv 0 r.length ∧ hp' = [.rowv 185 6 r.length (r.flatMap e_laneref1_kept), .box 9 [S f]] := by
  refine ec_enter (Fr.of 0 _) Tryz.func135 rfl (Fr.of_ok _) (Nat.le_of_ble_eq_true rfl) fun _ => ?_
  refine go_in ?_
  unfold m_slices_DeleteFunc_laneref1_kept_laneref1_kept_3 at h
  refine go hΓ 2 rfl ?_
  refine eo_nilOwnV (t := 0) 185 6 rfl (Nat.le_of_ble_eq_true rfl) ?_
  obtain ⟨y1, hy1, h2⟩ := bi_ok h
  refine go_ops hΓ 6 rfl ?_
  refine eo_callF [0, 1] (I y1) [.rowv 185 6 s.length (s.flatMap e_laneref1_kept), .box 9 [S f], .rowv 185 6 ([] : List T_laneref1_kept).length (([] : List T_laneref1_kept).flatMap e_laneref1_kept)] (callable Tryz.func223 rfl rfl) (c_slices_IndexFunc_laneref1_kept_laneref1_kept_3 hy1) rfl (Nat.le_of_ble_eq_true rfl) rfl rfl rfl rfl rfl rfl rfl rfl rfl rfl ?_
  refine go_ops hΓ 10 rfl ?_
  refine j_cond rfl (fun hb => ?_) (fun hb => ?_)
  · have h3 := cT h2 hb
    refine go hΓ 8 rfl ?_
    obtain rfl := Option.some.inj h3
    exact fin_objs hΓ [_] (.inr rfl) rfl rfl rfl rfl (.inr ⟨HB.mk rfl, rfl⟩)
  · have h4 := cF h2 hb
    refine go hΓ 10 rfl ?_
    obtain ⟨q8, hq8, h9⟩ := bi_ok h4
    refine j_cutNZ [(0, .sv 0 q8.1.length), (5, I q8.2)] [.rowv 185 6 q8.1.length (q8.1.flatMap e_laneref1_kept), .box 9 [S f], .rowv 185 6 ([] : List T_laneref1_kept).length (([] : List T_laneref1_kept).flatMap e_laneref1_kept)] ?_ ?_
    · refine go hΓ 1 rfl ?_
      refine j_loop hq8 (fun s6 => [(0, .sv 0 s6.1.length), (1, .fn (.func 145) [] [.ptr 1 0]), (5, I s6.2.1), (6, I s6.2.2)]) (fun s6 => [.rowv 185 6 s6.1.length (s6.1.flatMap e_laneref1_kept), .box 9 [S f], .rowv 185 6 ([] : List T_laneref1_kept).length (([] : List T_laneref1_kept).flatMap e_laneref1_kept)]) ⟨⟨rfl, rfl, rfl, rfl, trivial⟩, [], rfl, .inl rfl⟩ (fun s6 y14 hy12 hout13 => ?_)
      refine go hΓ 9 rfl ?_
      refine j_cond rfl (fun hb => ?_) (fun hb => ?_)
      · have h15 := cT hy12 hb
        obtain ⟨x16, hx16, h17⟩ := bi_ok h15
        have hj18 := getZ_at hx16
        refine go hΓ 8 rfl ?_
        refine eo_o rfl (op_elemRowV hΓ hx16 rfl rfl rfl rfl rfl rfl) ?_
        refine eo_o rfl (op_loadRowV hΓ (enc := e_laneref1_kept) s6.2.2.toNat 0 hj18 rfl rfl rfl rfl (fun _ => rfl) (g := .agg [S x16.name, I x16.kind, I x16.v_at, I x16.v_end, .d (Sl e_api_Record x16.l), I x16.used]) rfl) ?_
        refine eo_alloc hΓ rfl rfl rfl (Nat.le_of_ble_eq_true rfl) ?_
        refine eo_store hΓ rfl rfl rfl rfl rfl rfl rfl rfl (Nat.le_of_ble_eq_true rfl) ?_
        refine eo_hp [.rowv 185 6 s6.1.length (s6.1.flatMap e_laneref1_kept), .box 9 [S f], .rowv 185 6 ([] : List T_laneref1_kept).length (([] : List T_laneref1_kept).flatMap e_laneref1_kept), .box 185 [S x16.name, I x16.kind, I x16.v_at, I x16.v_end, .d (Sl e_api_Record x16.l), I x16.used]] rfl ?_
        obtain ⟨y19, hy19, h20⟩ := bi_ok h17
        refine go_ops hΓ 6 rfl ?_
        refine eo_callF [1] (B y19) [.rowv 185 6 s6.1.length (s6.1.flatMap e_laneref1_kept), .box 9 [S f], .rowv 185 6 ([] : List T_laneref1_kept).length (([] : List T_laneref1_kept).flatMap e_laneref1_kept), .box 185 [S x16.name, I x16.kind, I x16.v_at, I x16.v_end, .d (Sl e_api_Record x16.l), I x16.used]] (callable Tryz.func145 rfl rfl) (c_laneref1_Cache_Drop_1 hy19) rfl (Nat.le_of_ble_eq_true rfl) rfl rfl rfl rfl rfl rfl rfl rfl rfl rfl ?_
        refine go_ops hΓ 3 rfl ?_
        refine j_cond rfl (fun hb => ?_) (fun hb => ?_)
        · have h21 := cT h20 hb
          obtain ⟨x22, hx22, h23⟩ := bi_ok h21
          have hj24 := getZ_at hx22
          refine go hΓ 5 rfl ?_
          refine eo_o rfl (op_elemRowV hΓ hx22 rfl rfl rfl rfl rfl rfl) ?_
          refine eo_storeRowV hΓ (enc := e_laneref1_kept) (z' := x16) s6.2.1.toNat 0 hj24 rfl rfl rfl rfl (fun _ => rfl) rfl rfl rfl rfl rfl rfl (Nat.le_of_ble_eq_true rfl) ?_
          refine eo_hp [.rowv 185 6 (s6.1.set s6.2.1.toNat x16).length ((s6.1.set s6.2.1.toNat x16).flatMap e_laneref1_kept), .box 9 [S f], .rowv 185 6 ([] : List T_laneref1_kept).length (([] : List T_laneref1_kept).flatMap e_laneref1_kept), .box 185 [S x16.name, I x16.kind, I x16.v_at, I x16.v_end, .d (Sl e_api_Record x16.l), I x16.used]] rfl ?_
          refine eo_relenV 0 (n' := (s6.1.set s6.2.1.toNat x16).length) rfl List.length_set.symm ?_
          refine go_ops hΓ 14 rfl ?_
          obtain rfl := Option.some.inj h23
          exact ⟨_, rfl, ⟨⟨rfl, rfl, rfl, rfl, trivial⟩, [_], rfl, .inr ⟨HB.mk rfl, FB.mk rfl, (Nat.le_of_ble_eq_true rfl)⟩⟩⟩
        · have h25 := cF h20 hb
          refine go hΓ 8 rfl ?_
          obtain rfl := Option.some.inj h25
          exact ⟨_, rfl, ⟨⟨rfl, rfl, rfl, rfl, trivial⟩, [_], rfl, .inr ⟨HB.mk rfl, FB.mk rfl, (Nat.le_of_ble_eq_true rfl)⟩⟩⟩
      · have h26 := cF hy12 hb
        refine go hΓ 4 rfl ?_
        obtain rfl := Option.some.inj h26
        obtain rfl := hout13 _ rfl
        exact ⟨⟨rfl, rfl, trivial⟩, [], rfl, .inl rfl⟩
    · obtain ⟨z27, hz27, h28⟩ := bi_ok h9
      refine go hΓ 5 rfl ?_
      refine eo_o rfl (op_viewV hΓ hz27 rfl rfl rfl rfl rfl rfl) ?_
      refine eo_s0 (Nat.le_of_ble_eq_true rfl) (ops_clearV hΓ (enc := e_laneref1_kept) (a := q8.2) hz27 rfl rfl rfl rfl rfl rfl rfl rfl rfl (fun _ => rfl)) ?_
      refine go_ops hΓ 6 rfl ?_
      refine eo_subCutV hΓ hz27 rfl rfl rfl rfl rfl rfl rfl rfl ?_
      refine go_ops hΓ 4 rfl ?_
      obtain rfl := Option.some.inj h28
      exact fin_objs hΓ [_] (.inr rfl) rfl rfl rfl rfl (.inr ⟨HB.mk rfl, rfl⟩)
theorem c_laneref1_Cache_Drop {k : Nat} {c : T_laneref1_Cache} {v_at : Int} {zone : Str} {r : Int × Int × T_laneref1_Cache} (h : m_laneref1_Cache_Drop k c v_at zone = some r) : EC Tryz.prog 48 [.ptr 1 0, I v_at, S zone] [.rowv 185 6 c.l.length (c.l.flatMap e_laneref1_kept), .box 170 [I c.most, I c.now, I c.calls, .sv 0 c.l.length]] fun g hp' => g = .tup [I r.1, I r.2.1] ∧ hp' = [.rowv 185 6 r.2.2.l.length (r.2.2.l.flatMap e_laneref1_kept), .box 170 [I r.2.2.most, I r.2.2.now, I r.2.2.calls, .sv 0 r.2.2.l.length]] := by
  refine ec_enterC (Fr.of 0 _) Tryz.func48 rfl (Fr.of_ok _) (Nat.le_of_ble_eq_true rfl) fun _ => ?_
  refine go_in ?_
  unfold m_laneref1_Cache_Drop at h
  refine go hΓ 2 rfl ?_
  refine eo_box rfl rfl rfl rfl (Nat.le_of_ble_eq_true rfl) ?_
  obtain ⟨y1, hy1, h2⟩ := bi_ok h
  refine go_ops hΓ 10 rfl ?_
  refine eo_callF [0, 1] (I y1) [.rowv 185 6 c.l.length (c.l.flatMap e_laneref1_kept), .box 170 [I c.most, I c.now, I c.calls, .sv 0 c.l.length], .box 9 [S zone]] (callable Tryz.func132 rfl rfl) (c_laneref1_Cache_callFault hy1) rfl (Nat.le_of_ble_eq_true rfl) rfl rfl rfl rfl rfl rfl rfl rfl rfl rfl ?_
  refine go_ops hΓ 9 rfl ?_
  refine j_cond rfl (fun hb => ?_) (fun hb => ?_)
  · have h3 := cT h2 hb
    refine go hΓ 9 rfl ?_
    refine cv_here ?_
    obtain rfl := Option.some.inj h3
    exact fin_objs hΓ [_] (.inr rfl) rfl rfl rfl rfl (.inr ⟨HB.mk rfl, rfl⟩)
  · have h4 := cF h2 hb
    obtain ⟨y5, hy5, h6⟩ := bi_ok h4
    refine go hΓ 6 rfl ?_
    refine eo_callF [0, 1] (.tup []) [.rowv 185 6 y5.l.length (y5.l.flatMap e_laneref1_kept), .box 170 [I y5.most, I y5.now, I y5.calls, .sv 0 y5.l.length], .box 9 [S zone]] (callable Tryz.func134 rfl rfl) (c_laneref1_Cache_drop hy5) rfl (Nat.le_of_ble_eq_true rfl) rfl rfl rfl rfl rfl rfl rfl rfl rfl rfl ?_
    obtain ⟨y7, hy7, h8⟩ := bi_ok h6
    refine go_ops hΓ 20 rfl ?_
    refine eo_forg 0 [.rowv 185 6 y5.l.length (y5.l.flatMap e_laneref1_kept), .box 170 [I y5.most, I y5.now, I y5.calls, .junk], .box 9 [S zone]] rfl (Nat.le_of_ble_eq_true rfl) ?_
    refine eo_callF [0, 2] (.sv 0 y7.length) [.rowv 185 6 y7.length (y7.flatMap e_laneref1_kept), .box 170 [I y5.most, I y5.now, I y5.calls, .junk], .box 9 [S zone]] (callable Tryz.func135 rfl rfl) (c_slices_DeleteFunc_laneref1_kept_laneref1_kept_3 hy7) rfl (Nat.le_of_ble_eq_true rfl) rfl rfl rfl rfl rfl rfl rfl rfl rfl rfl ?_
    refine go_ops hΓ 2 rfl ?_
    refine eo_store hΓ rfl rfl rfl rfl rfl rfl rfl rfl (Nat.le_of_ble_eq_true rfl) ?_
    refine eo_hp [.rowv 185 6 y7.length (y7.flatMap e_laneref1_kept), .box 170 [I y5.most, I y5.now, I y5.calls, .sv 0 y7.length], .box 9 [S zone]] rfl ?_
    refine go_ops hΓ 16 rfl ?_
    refine cv_here ?_
    obtain rfl := Option.some.inj h8
    exact fin_objs hΓ [_] (.inr rfl) rfl rfl rfl rfl (.inr ⟨HB.mk rfl, rfl⟩)
theorem c_name_Cache_Many {k : Nat} {c : T_name_Cache} {v_at : Int} {r : Int × Int × T_name_Cache} (h : m_name_Cache_Many k c v_at = some r) : EC Tryz.prog 49 [.ptr 1 0, I v_at] [.row 177 6 c.list.length (c.list.flatMap e_name_kept), .box 167 [I c.most, I c.now, I c.calls, .sl 0 c.list.length]] fun g hp' => g = .tup [I r.1, I r.2.1] ∧ hp' = [.row 177 6 r.2.2.list.length (r.2.2.list.flatMap e_name_kept), .box 167 [I r.2.2.most, I r.2.2.now, I r.2.2.calls, .sl 0 r.2.2.list.length]] := by
  refine ec_enterC (Fr.of 0 _) Tryz.func49 rfl (Fr.of_ok _) (Nat.le_of_ble_eq_true rfl) fun _ => ?_
  refine go_in ?_
  unfold m_name_Cache_Many at h
  obtain ⟨y1, hy1, h2⟩ := bi_ok h
  refine go hΓ 11 rfl ?_
  refine eo_callF [0, 1] (I y1) [.row 177 6 c.list.length (c.list.flatMap e_name_kept), .box 167 [I c.most, I c.now, I c.calls, .sl 0 c.list.length]] (callable Tryz.func142 rfl rfl) (c_name_Cache_timeFault hy1) rfl (Nat.le_of_ble_eq_true rfl) rfl rfl rfl rfl rfl rfl rfl rfl rfl rfl ?_
  refine go_ops hΓ 9 rfl ?_
  refine j_cond rfl (fun hb => ?_) (fun hb => ?_)
  · have h3 := cT h2 hb
    refine go hΓ 9 rfl ?_
    refine cv_here ?_
    obtain rfl := Option.some.inj h3
    exact fin_objs hΓ [] (.inr rfl) rfl rfl rfl rfl (.inl rfl)
  · have h4 := cF h2 hb
    obtain ⟨y5, hy5, h6⟩ := bi_ok h4
    refine go hΓ 6 rfl ?_
    refine eo_callF [0, 1] (.tup []) [.row 177 6 y5.list.length (y5.list.flatMap e_name_kept), .box 167 [I y5.most, I y5.now, I y5.calls, .sl 0 y5.list.length]] (callable Tryz.func127 rfl rfl) (c_name_Cache_pass hy5) rfl (Nat.le_of_ble_eq_true rfl) rfl rfl rfl rfl rfl rfl rfl rfl rfl rfl ?_
    refine go_ops hΓ 14 rfl ?_
    refine cv_here ?_
    obtain rfl := Option.some.inj h6
    exact fin_objs hΓ [] (.inr rfl) rfl rfl rfl rfl (.inl rfl)
theorem c_laneref1_Cache_Many {k : Nat} {c : T_laneref1_Cache} {v_at : Int} {r : Int × Int × T_laneref1_Cache} (h : m_laneref1_Cache_Many k c v_at = some r) : EC Tryz.prog 50 [.ptr 1 0, I v_at] [.rowv 185 6 c.l.length (c.l.flatMap e_laneref1_kept), .box 170 [I c.most, I c.now, I c.calls, .sv 0 c.l.length]] fun g hp' => g = .tup [I r.1, I r.2.1] ∧ hp' = [.rowv 185 6 r.2.2.l.length (r.2.2.l.flatMap e_laneref1_kept), .box 170 [I r.2.2.most, I r.2.2.now, I r.2.2.calls, .sv 0 r.2.2.l.length]] := by
  refine ec_enterC (Fr.of 0 _) Tryz.func50 rfl (Fr.of_ok _) (Nat.le_of_ble_eq_true rfl) fun _ => ?_
  refine go_in ?_
  unfold m_laneref1_Cache_Many at h
  obtain ⟨y1, hy1, h2⟩ := bi_ok h
  refine go hΓ 11 rfl ?_
  refine eo_callF [0, 1] (I y1) [.rowv 185 6 c.l.length (c.l.flatMap e_laneref1_kept), .box 170 [I c.most, I c.now, I c.calls, .sv 0 c.l.length]] (callable Tryz.func132 rfl rfl) (c_laneref1_Cache_callFault hy1) rfl (Nat.le_of_ble_eq_true rfl) rfl rfl rfl rfl rfl rfl rfl rfl rfl rfl ?_
  refine go_ops hΓ 9 rfl ?_
  refine j_cond rfl (fun hb => ?_) (fun hb => ?_)
  · have h3 := cT h2 hb
    refine go hΓ 9 rfl ?_
    refine cv_here ?_
    obtain rfl := Option.some.inj h3
    exact fin_objs hΓ [] (.inr rfl) rfl rfl rfl rfl (.inl rfl)
  · have h4 := cF h2 hb
    obtain ⟨y5, hy5, h6⟩ := bi_ok h4
    refine go hΓ 6 rfl ?_
    refine eo_callF [0, 1] (.tup []) [.rowv 185 6 y5.l.length (y5.l.flatMap e_laneref1_kept), .box 170 [I y5.most, I y5.now, I y5.calls, .sv 0 y5.l.length]] (callable Tryz.func134 rfl rfl) (c_laneref1_Cache_drop hy5) rfl (Nat.le_of_ble_eq_true rfl) rfl rfl rfl rfl rfl rfl rfl rfl rfl rfl ?_
    refine go_ops hΓ 14 rfl ?_
    refine cv_here ?_
    obtain rfl := Option.some.inj h6
    exact fin_objs hΓ [] (.inr rfl) rfl rfl rfl rfl (.inl rfl)
set_option maxHeartbeats 8000000 in
theorem c_lanelaw1_CachesKeep {k : Nat} {l : List Int} {r : Bool} (h : m_lanelaw1_CachesKeep k l = some r) : Pure Tryz.prog 6 [.d (Sl (eN .i64) l)] (B r) := by
  refine Pure.enter (Fr.of 0 _) Tryz.func6 rfl (Fr.of_ok _) rfl rfl ?_
  refine go_in ?_
  unfold m_lanelaw1_CachesKeep at h
  refine go hΓ 8 rfl ?_
  refine eo_build hΓ (gs := [.d (Sl (eN .i64) l), I 0]) rfl rfl rfl rfl rfl rfl rfl ?_
  refine eo_box rfl rfl rfl rfl (Nat.le_of_ble_eq_true rfl) ?_
  refine go_ops hΓ 6 rfl ?_
  refine eo_litT hΓ (enc := (eN .i64)) [1, 2, 2, 3, 0, 501] rfl rfl rfl rfl rfl rfl rfl rfl rfl rfl rfl rfl (Nat.le_of_ble_eq_true rfl) ?_
  obtain ⟨y1, hy1, h2⟩ := bi_ok h
  refine eo_callF [0] (I y1.1) [.box 25 [.d (Sl (eN .i64) y1.2.L), I y1.2.v_at]] (callable Tryz.func35 rfl rfl) (c_lanemake_Stream_Pick hy1) rfl (Nat.le_of_ble_eq_true rfl) rfl rfl rfl rfl rfl rfl rfl rfl rfl rfl ?_
  obtain ⟨y3, hy3, h4⟩ := bi_ok h2
  refine go_ops hΓ 6 rfl ?_
  rcases y3 with ⟨_ | z5, z6⟩
  · refine eo_callF [] (.tup [.d (.v (.pointer none)), I z6]) [.box 25 [.d (Sl (eN .i64) y1.2.L), I y1.2.v_at]] (callable Tryz.func36 rfl rfl) (c_name_New_none hy3) rfl (Nat.le_of_ble_eq_true rfl) rfl rfl rfl rfl rfl rfl rfl rfl rfl rfl ?_
    refine go_ops hΓ 13 rfl ?_
    refine o_cut 3 [(3, .ptr 0 0), (4, I y1.1), (5, .d (.v (.pointer none))), (6, I z6), (45, B ((decide ((y1.1 : Int) < 1)) || (decide ((y1.1 : Int) > 500))))] [.box 25 [.d (Sl (eN .i64) y1.2.L), I y1.2.v_at]] ?_ ?_
    · refine eo_gsplit rfl rfl (fun hb => ?_) (fun hb => ?_)
      · refine go_ops hΓ 4 rfl ?_
        exact ⟨⟨rfl, rfl, rfl, rfl, get_b rfl (or_t hb), trivial⟩, [], rfl, .inl rfl⟩
      · refine go_ops hΓ 4 rfl ?_
        exact ⟨⟨rfl, rfl, rfl, rfl, get_b rfl (or_f hb), trivial⟩, [], rfl, .inl rfl⟩
    · refine go_ops hΓ 2 rfl ?_
      refine j_cond rfl (fun hb => ?_) (fun hb => ?_)
      · have h7 := cT h4 hb
        refine go hΓ 5 rfl ?_
        refine o_cut 3 [(51, B (((z6 : Int) == 1) && true))] [.box 25 [.d (Sl (eN .i64) y1.2.L), I y1.2.v_at]] ?_ ?_
        · refine eo_gsplit rfl rfl (fun hb => ?_) (fun hb => ?_)
          · refine go_ops hΓ 1 rfl ?_
            refine eo_guard rfl ?_
            refine eo_o rfl ((op_nilEq hΓ rfl rfl rfl rfl).1) ?_
            refine go_ops hΓ 2 rfl ?_
            exact ⟨⟨get_b rfl (and_t hb), trivial⟩, [], rfl, .inl rfl⟩
          · refine go_ops hΓ 4 rfl ?_
            exact ⟨⟨get_b rfl (and_f hb), trivial⟩, [], rfl, .inl rfl⟩
        · refine go_ops hΓ 1 rfl ?_
          obtain ⟨q8, hq8, h9⟩ := bi_ok h7
          refine o_cut 2 [(54, B q8)] [.box 25 [.d (Sl (eN .i64) y1.2.L), I y1.2.v_at]] ?_ ?_
          · refine eo_gsplit rfl rfl (fun hb => ?_) (fun hb => ?_)
            · have h10 := cT hq8 hb
              obtain ⟨y11, hy11, h12⟩ := bi_ok h10
              refine eo_guard rfl ?_
              refine eo_callP (callable Tryz.func24 rfl rfl) (c_lanelaw1_named hy11) rfl (Nat.le_of_ble_eq_true rfl) rfl rfl rfl rfl rfl ?_
              refine go_ops hΓ 2 rfl ?_
              obtain rfl := Option.some.inj h12
              exact ⟨⟨rfl, trivial⟩, [], rfl, .inl rfl⟩
            · have h13 := cF hq8 hb
              refine go_ops hΓ 3 rfl ?_
              obtain rfl := Option.some.inj h13
              exact ⟨⟨rfl, trivial⟩, [], rfl, .inl rfl⟩
          · refine go_ops hΓ 5 rfl ?_
            obtain rfl := Option.some.inj h9
            exact fin_pure hΓ (.inr rfl) rfl rfl
      · have h14 := cF h4 hb
        refine go hΓ 8 rfl ?_
        refine o_cut 3 [(3, .ptr 0 0), (4, I y1.1), (5, .d (.v (.pointer none))), (60, B true)] [.box 25 [.d (Sl (eN .i64) y1.2.L), I y1.2.v_at]] ?_ ?_
        · refine eo_gsplit rfl rfl (fun hb => ?_) (fun hb => ?_)
          · refine go_ops hΓ 4 rfl ?_
            exact ⟨⟨rfl, rfl, rfl, rfl, trivial⟩, [], rfl, .inl rfl⟩
          · refine go_ops hΓ 1 rfl ?_
            refine eo_guard rfl ?_
            refine eo_o rfl ((op_nilEq hΓ rfl rfl rfl rfl).1) ?_
            refine go_ops hΓ 2 rfl ?_
            exact ⟨⟨rfl, rfl, rfl, rfl, trivial⟩, [], rfl, .inl rfl⟩
        · refine go_ops hΓ 10 rfl ?_
          obtain rfl := Option.some.inj h14
          exact fin_pure hΓ (.inr rfl) rfl rfl
  · refine eo_callF [] (.tup [.ptr 2 0, I z6]) [.box 25 [.d (Sl (eN .i64) y1.2.L), I y1.2.v_at], .row 177 6 z5.list.length (z5.list.flatMap e_name_kept), .box 167 [I z5.most, I z5.now, I z5.calls, .sl 1 z5.list.length]] (callable Tryz.func36 rfl rfl) (c_name_New_some hy3) rfl (Nat.le_of_ble_eq_true rfl) rfl rfl rfl rfl rfl rfl rfl rfl rfl rfl ?_
    refine go_ops hΓ 13 rfl ?_
    refine o_cut 3 [(3, .ptr 0 0), (4, I y1.1), (5, .ptr 2 0), (6, I z6), (45, B ((decide ((y1.1 : Int) < 1)) || (decide ((y1.1 : Int) > 500))))] [.box 25 [.d (Sl (eN .i64) y1.2.L), I y1.2.v_at], .row 177 6 z5.list.length (z5.list.flatMap e_name_kept), .box 167 [I z5.most, I z5.now, I z5.calls, .sl 1 z5.list.length]] ?_ ?_
    · refine eo_gsplit rfl rfl (fun hb => ?_) (fun hb => ?_)
      · refine go_ops hΓ 4 rfl ?_
        exact ⟨⟨rfl, rfl, rfl, rfl, get_b rfl (or_t hb), trivial⟩, [], rfl, .inl rfl⟩
      · refine go_ops hΓ 4 rfl ?_
        exact ⟨⟨rfl, rfl, rfl, rfl, get_b rfl (or_f hb), trivial⟩, [], rfl, .inl rfl⟩
    · refine go_ops hΓ 2 rfl ?_
      refine j_cond rfl (fun hb => ?_) (fun hb => ?_)
      · have h15 := cT h4 hb
        refine go hΓ 5 rfl ?_
        refine o_cut 3 [(51, B false)] [.box 25 [.d (Sl (eN .i64) y1.2.L), I y1.2.v_at], .row 177 6 z5.list.length (z5.list.flatMap e_name_kept), .box 167 [I z5.most, I z5.now, I z5.calls, .sl 1 z5.list.length]] ?_ ?_
        · refine eo_gsplit rfl rfl (fun hb => ?_) (fun hb => ?_)
          · refine go_ops hΓ 1 rfl ?_
            refine eo_guard rfl ?_
            refine eo_o rfl ((op_ptrEq hΓ rfl rfl rfl rfl).1) ?_
            refine go_ops hΓ 2 rfl ?_
            exact ⟨⟨rfl, trivial⟩, [], rfl, .inl rfl⟩
          · refine go_ops hΓ 4 rfl ?_
            exact ⟨⟨rfl, trivial⟩, [], rfl, .inl rfl⟩
        · refine go_ops hΓ 8 rfl ?_
          obtain rfl := Option.some.inj h15
          exact fin_pure hΓ (.inr rfl) rfl rfl
      · have h16 := cF h4 hb
        refine go hΓ 8 rfl ?_
        refine o_cut 3 [(3, .ptr 0 0), (4, I y1.1), (5, .ptr 2 0), (60, B (((z6 : Int) != 0) || false))] [.box 25 [.d (Sl (eN .i64) y1.2.L), I y1.2.v_at], .row 177 6 z5.list.length (z5.list.flatMap e_name_kept), .box 167 [I z5.most, I z5.now, I z5.calls, .sl 1 z5.list.length]] ?_ ?_
        · refine eo_gsplit rfl rfl (fun hb => ?_) (fun hb => ?_)
          · refine go_ops hΓ 4 rfl ?_
            exact ⟨⟨rfl, rfl, rfl, get_b rfl (or_t hb), trivial⟩, [], rfl, .inl rfl⟩
          · refine go_ops hΓ 1 rfl ?_
            refine eo_guard rfl ?_
            refine eo_o rfl ((op_ptrEq hΓ rfl rfl rfl rfl).1) ?_
            refine go_ops hΓ 2 rfl ?_
            exact ⟨⟨rfl, rfl, rfl, get_b rfl (or_f hb), trivial⟩, [], rfl, .inl rfl⟩
        · refine go_ops hΓ 2 rfl ?_
          refine j_cond rfl (fun hb => ?_) (fun hb => ?_)
          · have h17 := cT h16 hb
            refine go hΓ 7 rfl ?_
            obtain rfl := Option.some.inj h17
            exact fin_pure hΓ (.inr rfl) rfl rfl
          · have h18 := cF h16 hb
            obtain ⟨y19, hy19, h20⟩ := bi_ok h18
            refine go hΓ 5 rfl ?_
            refine eo_callF [] (.ptr 4 0) [.box 25 [.d (Sl (eN .i64) y1.2.L), I y1.2.v_at], .row 177 6 z5.list.length (z5.list.flatMap e_name_kept), .box 167 [I z5.most, I z5.now, I z5.calls, .sl 1 z5.list.length], .rowv 185 6 y19.l.length (y19.l.flatMap e_laneref1_kept), .box 170 [I y19.most, I y19.now, I y19.calls, .sv 3 y19.l.length]] (callable Tryz.func37 rfl rfl) (c_laneref1_NewCache hy19) rfl (Nat.le_of_ble_eq_true rfl) rfl rfl rfl rfl rfl rfl rfl rfl rfl rfl ?_
            obtain ⟨y21, hy21, h22⟩ := bi_ok h20
            refine go_ops hΓ 12 rfl ?_
            refine eo_callF [0] (I y21.1) [.box 25 [.d (Sl (eN .i64) y21.2.L), I y21.2.v_at], .row 177 6 z5.list.length (z5.list.flatMap e_name_kept), .box 167 [I z5.most, I z5.now, I z5.calls, .sl 1 z5.list.length], .rowv 185 6 y19.l.length (y19.l.flatMap e_laneref1_kept), .box 170 [I y19.most, I y19.now, I y19.calls, .sv 3 y19.l.length]] (callable Tryz.func38 rfl rfl) (c_lanemake_Stream_Next hy21) rfl (Nat.le_of_ble_eq_true rfl) rfl rfl rfl rfl rfl rfl rfl rfl rfl rfl ?_
            refine go_ops hΓ 3 rfl ?_
            obtain ⟨q26, hq26, h27⟩ := bi_ok h22
            obtain ⟨hb29, h30⟩ := gd_ok hq26
            replace hb29 := of_decide_eq_true hb29
            refine j_cutEZ (R := fun a28 => q26 = .go a28) (fun a28 => []) (fun a28 => [.box 25 [.d (Sl (eN .i64) a28.1.L), I a28.1.v_at], .row 177 6 a28.2.1.length (a28.2.1.flatMap e_name_kept), .box 167 [I a28.2.2.1, I a28.2.2.2.1, I a28.2.2.2.2.1, .sl 1 a28.2.1.length], .rowv 185 6 a28.2.2.2.2.2.1.length (a28.2.2.2.2.2.1.flatMap e_laneref1_kept), .box 170 [I a28.2.2.2.2.2.2.1, I a28.2.2.2.2.2.2.2.1, I a28.2.2.2.2.2.2.2.2.1, .sv 3 a28.2.2.2.2.2.1.length]]) ?_ ?_
            · refine go hΓ 1 rfl ?_
              refine j_rangeI h30 (fun i23 s24 => [(3, .ptr 0 0), (5, .ptr 2 0), (7, .ptr 4 0), (8, I s24.2.2.2.2.2.2.2.2.2), (64, I y21.1), (65, I (i23 : Int))]) (fun s24 => [.box 25 [.d (Sl (eN .i64) s24.1.L), I s24.1.v_at], .row 177 6 s24.2.1.length (s24.2.1.flatMap e_name_kept), .box 167 [I s24.2.2.1, I s24.2.2.2.1, I s24.2.2.2.2.1, .sl 1 s24.2.1.length], .rowv 185 6 s24.2.2.2.2.2.1.length (s24.2.2.2.2.2.1.flatMap e_laneref1_kept), .box 170 [I s24.2.2.2.2.2.2.1, I s24.2.2.2.2.2.2.2.1, I s24.2.2.2.2.2.2.2.2.1, .sv 3 s24.2.2.2.2.2.1.length]]) ⟨⟨rfl, rfl, rfl, rfl, rfl, rfl, trivial⟩, [], rfl, .inl rfl⟩ (fun i23 s24 y34 hlt hy32 hout33 => ?_) (fun s24 hgo hge => ?_)
              · refine go hΓ 6 rfl ?_
                refine j_condT rfl (decide_eq_true hlt) ?_
                refine go hΓ 8 rfl ?_
                refine eo_litT hΓ (enc := (eN .i64)) [0, 0, 1, 2, 5, 60] rfl rfl rfl rfl rfl rfl rfl rfl rfl rfl rfl rfl (Nat.le_of_ble_eq_true rfl) ?_
                obtain ⟨y35, hy35, h36⟩ := bi_ok hy32
                refine eo_callF [0] (I y35.1) [.box 25 [.d (Sl (eN .i64) y35.2.L), I y35.2.v_at], .row 177 6 s24.2.1.length (s24.2.1.flatMap e_name_kept), .box 167 [I s24.2.2.1, I s24.2.2.2.1, I s24.2.2.2.2.1, .sl 1 s24.2.1.length], .rowv 185 6 s24.2.2.2.2.2.1.length (s24.2.2.2.2.2.1.flatMap e_laneref1_kept), .box 170 [I s24.2.2.2.2.2.2.1, I s24.2.2.2.2.2.2.2.1, I s24.2.2.2.2.2.2.2.2.1, .sv 3 s24.2.2.2.2.2.1.length]] (callable Tryz.func35 rfl rfl) (c_lanemake_Stream_Pick hy35) rfl (Nat.le_of_ble_eq_true rfl) rfl rfl rfl rfl rfl rfl rfl rfl rfl rfl ?_
                obtain ⟨y37, hy37, h38⟩ := bi_ok h36
                refine go_ops hΓ 14 rfl ?_
                refine eo_callF [0] (B y37.1) [.box 25 [.d (Sl (eN .i64) y37.2.L), I y37.2.v_at], .row 177 6 s24.2.1.length (s24.2.1.flatMap e_name_kept), .box 167 [I s24.2.2.1, I s24.2.2.2.1, I s24.2.2.2.2.1, .sl 1 s24.2.1.length], .rowv 185 6 s24.2.2.2.2.2.1.length (s24.2.2.2.2.2.1.flatMap e_laneref1_kept), .box 170 [I s24.2.2.2.2.2.2.1, I s24.2.2.2.2.2.2.2.1, I s24.2.2.2.2.2.2.2.2.1, .sv 3 s24.2.2.2.2.2.1.length]] (callable Tryz.func39 rfl rfl) (c_lanemake_Stream_Flip hy37) rfl (Nat.le_of_ble_eq_true rfl) rfl rfl rfl rfl rfl rfl rfl rfl rfl rfl ?_
                obtain ⟨q39, hq39, h40⟩ := bi_ok h38
                refine go_ops hΓ 2 rfl ?_
                refine j_cutNZ [(3, .ptr 0 0), (5, .ptr 2 0), (7, .ptr 4 0), (8, I (wi (s24.2.2.2.2.2.2.2.2.2 + y35.1))), (9, I q39.2), (64, I y21.1), (65, I (i23 : Int))] [.box 25 [.d (Sl (eN .i64) q39.1.L), I q39.1.v_at], .row 177 6 s24.2.1.length (s24.2.1.flatMap e_name_kept), .box 167 [I s24.2.2.1, I s24.2.2.2.1, I s24.2.2.2.2.1, .sl 1 s24.2.1.length], .rowv 185 6 s24.2.2.2.2.2.1.length (s24.2.2.2.2.2.1.flatMap e_laneref1_kept), .box 170 [I s24.2.2.2.2.2.2.1, I s24.2.2.2.2.2.2.2.1, I s24.2.2.2.2.2.2.2.2.1, .sv 3 s24.2.2.2.2.2.1.length]] ?_ ?_
                · refine j_cond rfl (fun hb => ?_) (fun hb => ?_)
                  · have h41 := cT hq39 hb
                    refine go hΓ 2 rfl ?_
                    refine eo_litT hΓ (enc := (eN .i64)) [-1, 0, 345686400] rfl rfl rfl rfl rfl rfl rfl rfl rfl rfl rfl rfl (Nat.le_of_ble_eq_true rfl) ?_
                    obtain ⟨y42, hy42, h43⟩ := bi_ok h41
                    refine eo_callF [0] (I y42.1) [.box 25 [.d (Sl (eN .i64) y42.2.L), I y42.2.v_at], .row 177 6 s24.2.1.length (s24.2.1.flatMap e_name_kept), .box 167 [I s24.2.2.1, I s24.2.2.2.1, I s24.2.2.2.2.1, .sl 1 s24.2.1.length], .rowv 185 6 s24.2.2.2.2.2.1.length (s24.2.2.2.2.2.1.flatMap e_laneref1_kept), .box 170 [I s24.2.2.2.2.2.2.1, I s24.2.2.2.2.2.2.2.1, I s24.2.2.2.2.2.2.2.2.1, .sv 3 s24.2.2.2.2.2.1.length]] (callable Tryz.func35 rfl rfl) (c_lanemake_Stream_Pick hy42) rfl (Nat.le_of_ble_eq_true rfl) rfl rfl rfl rfl rfl rfl rfl rfl rfl rfl ?_
                    refine go_ops hΓ 2 rfl ?_
                    obtain rfl := Option.some.inj h43
                    exact ⟨⟨rfl, rfl, rfl, rfl, rfl, rfl, rfl, trivial⟩, [], rfl, .inl rfl⟩
                  · have h44 := cF hq39 hb
                    refine go hΓ 1 rfl ?_
                    obtain rfl := Option.some.inj h44
                    exact ⟨⟨rfl, rfl, rfl, rfl, rfl, rfl, rfl, trivial⟩, [], rfl, .inl rfl⟩
                · refine go hΓ 4 rfl ?_
                  refine eo_litT hΓ (enc := eS) [[97, 46, 110, 101, 116, 46, 120], [97, 46, 110, 101, 116, 46, 120], [98, 46, 110, 101, 116, 46, 120], [99, 46, 110, 101, 116, 46, 120], [65]] rfl rfl rfl rfl rfl rfl rfl rfl rfl rfl rfl rfl (Nat.le_of_ble_eq_true rfl) ?_
                  obtain ⟨y45, hy45, h46⟩ := bi_ok h40
                  refine eo_callF [0] (S y45.1) [.box 25 [.d (Sl (eN .i64) y45.2.L), I y45.2.v_at], .row 177 6 s24.2.1.length (s24.2.1.flatMap e_name_kept), .box 167 [I s24.2.2.1, I s24.2.2.2.1, I s24.2.2.2.2.1, .sl 1 s24.2.1.length], .rowv 185 6 s24.2.2.2.2.2.1.length (s24.2.2.2.2.2.1.flatMap e_laneref1_kept), .box 170 [I s24.2.2.2.2.2.2.1, I s24.2.2.2.2.2.2.2.1, I s24.2.2.2.2.2.2.2.2.1, .sv 3 s24.2.2.2.2.2.1.length]] (callable Tryz.func40 rfl rfl) (c_lanemake_Stream_Some hy45) rfl (Nat.le_of_ble_eq_true rfl) rfl rfl rfl rfl rfl rfl rfl rfl rfl rfl ?_
                  refine go_ops hΓ 1 rfl ?_
                  refine eo_litT hΓ (enc := (eN .i64)) [1, 1, 28, 2] rfl rfl rfl rfl rfl rfl rfl rfl rfl rfl rfl rfl (Nat.le_of_ble_eq_true rfl) ?_
                  obtain ⟨y47, hy47, h48⟩ := bi_ok h46
                  refine eo_callF [0] (I y47.1) [.box 25 [.d (Sl (eN .i64) y47.2.L), I y47.2.v_at], .row 177 6 s24.2.1.length (s24.2.1.flatMap e_name_kept), .box 167 [I s24.2.2.1, I s24.2.2.2.1, I s24.2.2.2.2.1, .sl 1 s24.2.1.length], .rowv 185 6 s24.2.2.2.2.2.1.length (s24.2.2.2.2.2.1.flatMap e_laneref1_kept), .box 170 [I s24.2.2.2.2.2.2.1, I s24.2.2.2.2.2.2.2.1, I s24.2.2.2.2.2.2.2.2.1, .sv 3 s24.2.2.2.2.2.1.length]] (callable Tryz.func35 rfl rfl) (c_lanemake_Stream_Pick hy47) rfl (Nat.le_of_ble_eq_true rfl) rfl rfl rfl rfl rfl rfl rfl rfl rfl rfl ?_
                  obtain ⟨y49, hy49, h50⟩ := bi_ok h48
                  refine go_ops hΓ 7 rfl ?_
                  refine eo_callF [0] (I y49.1) [.box 25 [.d (Sl (eN .i64) y49.2.L), I y49.2.v_at], .row 177 6 s24.2.1.length (s24.2.1.flatMap e_name_kept), .box 167 [I s24.2.2.1, I s24.2.2.2.1, I s24.2.2.2.2.1, .sl 1 s24.2.1.length], .rowv 185 6 s24.2.2.2.2.2.1.length (s24.2.2.2.2.2.1.flatMap e_laneref1_kept), .box 170 [I s24.2.2.2.2.2.2.1, I s24.2.2.2.2.2.2.2.1, I s24.2.2.2.2.2.2.2.2.1, .sv 3 s24.2.2.2.2.2.1.length]] (callable Tryz.func38 rfl rfl) (c_lanemake_Stream_Next hy49) rfl (Nat.le_of_ble_eq_true rfl) rfl rfl rfl rfl rfl rfl rfl rfl rfl rfl ?_
                  obtain ⟨q51, hq51, h52⟩ := bi_ok h50
                  refine go_ops hΓ 10 rfl ?_
                  refine j_cutNZ [(3, .ptr 0 0), (5, .ptr 2 0), (7, .ptr 4 0), (8, I (wi (s24.2.2.2.2.2.2.2.2.2 + y35.1))), (9, I q39.2), (10, S y45.1), (11, I y47.1), (64, I y21.1), (65, I (i23 : Int)), (85, I y49.1), (106, B q51)] [.box 25 [.d (Sl (eN .i64) y49.2.L), I y49.2.v_at], .row 177 6 s24.2.1.length (s24.2.1.flatMap e_name_kept), .box 167 [I s24.2.2.1, I s24.2.2.2.1, I s24.2.2.2.2.1, .sl 1 s24.2.1.length], .rowv 185 6 s24.2.2.2.2.2.1.length (s24.2.2.2.2.2.1.flatMap e_laneref1_kept), .box 170 [I s24.2.2.2.2.2.2.1, I s24.2.2.2.2.2.2.2.1, I s24.2.2.2.2.2.2.2.2.1, .sv 3 s24.2.2.2.2.2.1.length]] ?_ ?_
                  · refine j_cond rfl (fun hb => ?_) (fun hb => ?_)
                    · have h53 := cT hq51 hb
                      refine go hΓ 1 rfl ?_
                      obtain rfl := Option.some.inj h53
                      exact ⟨⟨rfl, rfl, rfl, rfl, rfl, rfl, rfl, rfl, rfl, rfl, rfl, trivial⟩, [], rfl, .inl rfl⟩
                    · have h54 := cF hq51 hb
                      refine go hΓ 6 rfl ?_
                      refine j_cond rfl (fun hb => ?_) (fun hb => ?_)
                      · have h55 := cT h54 hb
                        refine go hΓ 1 rfl ?_
                        obtain rfl := Option.some.inj h55
                        exact ⟨⟨rfl, rfl, rfl, rfl, rfl, rfl, rfl, rfl, rfl, rfl, rfl, trivial⟩, [], rfl, .inl rfl⟩
                      · have h56 := cF h54 hb
                        refine go hΓ 4 rfl ?_
                        obtain rfl := Option.some.inj h56
                        exact ⟨⟨rfl, rfl, rfl, rfl, rfl, rfl, rfl, rfl, rfl, rfl, rfl, trivial⟩, [], rfl, .inl rfl⟩
                  · refine go hΓ 1 rfl ?_
                    refine j_cond rfl (fun hb => ?_) (fun hb => ?_)
                    · have h57 := cT h52 hb
                      obtain ⟨y58, hy58, h59⟩ := bi_ok h57
                      refine go hΓ 4 rfl ?_
                      refine eo_callF [0] (I y58.1) [.box 25 [.d (Sl (eN .i64) y58.2.L), I y58.2.v_at], .row 177 6 s24.2.1.length (s24.2.1.flatMap e_name_kept), .box 167 [I s24.2.2.1, I s24.2.2.2.1, I s24.2.2.2.2.1, .sl 1 s24.2.1.length], .rowv 185 6 s24.2.2.2.2.2.1.length (s24.2.2.2.2.2.1.flatMap e_laneref1_kept), .box 170 [I s24.2.2.2.2.2.2.1, I s24.2.2.2.2.2.2.2.1, I s24.2.2.2.2.2.2.2.2.1, .sv 3 s24.2.2.2.2.2.1.length]] (callable Tryz.func26 rfl rfl) (c_lanemake_Stream_Range hy58) rfl (Nat.le_of_ble_eq_true rfl) rfl rfl rfl rfl rfl rfl rfl rfl rfl rfl ?_
                      obtain ⟨y60, hy60, h61⟩ := bi_ok h59
                      refine eo_callF [0] (.sl 5 y60.1.length) [.box 25 [.d (Sl (eN .i64) y60.2.L), I y60.2.v_at], .row 177 6 s24.2.1.length (s24.2.1.flatMap e_name_kept), .box 167 [I s24.2.2.1, I s24.2.2.2.1, I s24.2.2.2.2.1, .sl 1 s24.2.1.length], .rowv 185 6 s24.2.2.2.2.2.1.length (s24.2.2.2.2.2.1.flatMap e_laneref1_kept), .box 170 [I s24.2.2.2.2.2.2.1, I s24.2.2.2.2.2.2.2.1, I s24.2.2.2.2.2.2.2.2.1, .sv 3 s24.2.2.2.2.2.1.length], .row 80 8 y60.1.length (y60.1.flatMap e_api_Record)] (callable Tryz.func41 rfl rfl) (c_lanemake_Stream_Records hy60) rfl (Nat.le_of_ble_eq_true rfl) rfl rfl rfl rfl rfl rfl rfl rfl rfl rfl ?_
                      refine eo_shr 5 [113] _ [.box 25 [.d (Sl (eN .i64) y60.2.L), I y60.2.v_at], .row 177 6 s24.2.1.length (s24.2.1.flatMap e_name_kept), .box 167 [I s24.2.2.1, I s24.2.2.2.1, I s24.2.2.2.2.1, .sl 1 s24.2.1.length], .rowv 185 6 s24.2.2.2.2.2.1.length (s24.2.2.2.2.2.1.flatMap e_laneref1_kept), .box 170 [I s24.2.2.2.2.2.2.1, I s24.2.2.2.2.2.2.2.1, I s24.2.2.2.2.2.2.2.2.1, .sv 3 s24.2.2.2.2.2.1.length], .dead] rfl rfl rfl (Nat.le_of_ble_eq_true rfl) ?_
                      refine go_ops hΓ 1 rfl ?_
                      refine eo_litT hΓ (enc := (eN .i64)) [0, 5, 60, 60, -1] rfl rfl rfl rfl rfl rfl rfl rfl rfl rfl rfl rfl (Nat.le_of_ble_eq_true rfl) ?_
                      obtain ⟨y62, hy62, h63⟩ := bi_ok h61
                      refine eo_callF [0] (I y62.1) [.box 25 [.d (Sl (eN .i64) y62.2.L), I y62.2.v_at], .row 177 6 s24.2.1.length (s24.2.1.flatMap e_name_kept), .box 167 [I s24.2.2.1, I s24.2.2.2.1, I s24.2.2.2.2.1, .sl 1 s24.2.1.length], .rowv 185 6 s24.2.2.2.2.2.1.length (s24.2.2.2.2.2.1.flatMap e_laneref1_kept), .box 170 [I s24.2.2.2.2.2.2.1, I s24.2.2.2.2.2.2.2.1, I s24.2.2.2.2.2.2.2.2.1, .sv 3 s24.2.2.2.2.2.1.length], .dead] (callable Tryz.func35 rfl rfl) (c_lanemake_Stream_Pick hy62) rfl (Nat.le_of_ble_eq_true rfl) rfl rfl rfl rfl rfl rfl rfl rfl rfl rfl ?_
                      obtain ⟨y64, hy64, h65⟩ := bi_ok h63
                      refine go_ops hΓ 12 rfl ?_
                      refine eo_callF [1, 2] (I y64.1) [.box 25 [.d (Sl (eN .i64) y62.2.L), I y62.2.v_at], .dead, .box 167 [I y64.2.most, I y64.2.now, I y64.2.calls, .sl 6 y64.2.list.length], .rowv 185 6 s24.2.2.2.2.2.1.length (s24.2.2.2.2.2.1.flatMap e_laneref1_kept), .box 170 [I s24.2.2.2.2.2.2.1, I s24.2.2.2.2.2.2.2.1, I s24.2.2.2.2.2.2.2.2.1, .sv 3 s24.2.2.2.2.2.1.length], .dead, .row 177 6 y64.2.list.length (y64.2.list.flatMap e_name_kept)] (callable Tryz.func42 rfl rfl) (c_name_Cache_Put hy64) rfl (Nat.le_of_ble_eq_true rfl) rfl rfl rfl rfl rfl rfl rfl rfl rfl rfl ?_
                      obtain ⟨y66, hy66, h67⟩ := bi_ok h65
                      refine go_ops hΓ 6 rfl ?_
                      refine eo_callF [3, 4] (I y66.1) [.box 25 [.d (Sl (eN .i64) y62.2.L), I y62.2.v_at], .dead, .box 167 [I y64.2.most, I y64.2.now, I y64.2.calls, .sl 6 y64.2.list.length], .dead, .box 170 [I y66.2.most, I y66.2.now, I y66.2.calls, .sv 7 y66.2.l.length], .dead, .row 177 6 y64.2.list.length (y64.2.list.flatMap e_name_kept), .rowv 185 6 y66.2.l.length (y66.2.l.flatMap e_laneref1_kept)] (callable Tryz.func43 rfl rfl) (c_laneref1_Cache_Put hy66) rfl (Nat.le_of_ble_eq_true rfl) rfl rfl rfl rfl rfl rfl rfl rfl rfl rfl ?_
                      refine go_ops hΓ 1 rfl ?_
                      refine eo_move 6 1 [.box 25 [.d (Sl (eN .i64) y62.2.L), I y62.2.v_at], .row 177 6 y64.2.list.length (y64.2.list.flatMap e_name_kept), .box 167 [I y64.2.most, I y64.2.now, I y64.2.calls, .sl 1 y64.2.list.length], .dead, .box 170 [I y66.2.most, I y66.2.now, I y66.2.calls, .sv 7 y66.2.l.length], .dead, .dead, .rowv 185 6 y66.2.l.length (y66.2.l.flatMap e_laneref1_kept)] rfl rfl rfl rfl rfl rfl ?_
                      refine eo_move 7 3 [.box 25 [.d (Sl (eN .i64) y62.2.L), I y62.2.v_at], .row 177 6 y64.2.list.length (y64.2.list.flatMap e_name_kept), .box 167 [I y64.2.most, I y64.2.now, I y64.2.calls, .sl 1 y64.2.list.length], .rowv 185 6 y66.2.l.length (y66.2.l.flatMap e_laneref1_kept), .box 170 [I y66.2.most, I y66.2.now, I y66.2.calls, .sv 3 y66.2.l.length], .dead, .dead, .dead] rfl rfl rfl rfl rfl rfl ?_
                      refine go_ops hΓ 2 rfl ?_
                      refine j_cond rfl (fun hb => ?_) (fun hb => ?_)
                      · have h68 := cT h67 hb
                        refine go hΓ 9 rfl ?_
                        obtain ⟨v69, hv69, h70⟩ := bi_ok h68
                        obtain rfl := Option.some.inj h70
                        obtain rfl := hout33 _ rfl
                        obtain rfl := Option.some.inj h27
                        refine go hΓ 4 rfl ?_
                        obtain rfl := Option.some.inj hv69
                        exact fin_pure hΓ (.inr rfl) rfl rfl
                      · have h71 := cF h67 hb
                        refine go hΓ 8 rfl ?_
                        obtain rfl := Option.some.inj h71
                        exact ⟨_, rfl, ⟨⟨rfl, rfl, rfl, rfl, rfl, get_eq rfl (w64_succ (by omega)), trivial⟩, [_, _, _], rfl, .inr ⟨HB.mk rfl, FB.mk rfl, (Nat.le_of_ble_eq_true rfl)⟩⟩⟩
                    · have h72 := cF h52 hb
                      obtain ⟨q73, hq73, h74⟩ := bi_ok h72
                      refine go hΓ 7 rfl ?_
                      refine j_cutNZ [(3, .ptr 0 0), (5, .ptr 2 0), (7, .ptr 4 0), (8, I (wi (s24.2.2.2.2.2.2.2.2.2 + y35.1))), (9, I q39.2), (10, S y45.1), (11, I y47.1), (64, I y21.1), (65, I (i23 : Int)), (85, I y49.1), (132, B q73)] [.box 25 [.d (Sl (eN .i64) y49.2.L), I y49.2.v_at], .row 177 6 s24.2.1.length (s24.2.1.flatMap e_name_kept), .box 167 [I s24.2.2.1, I s24.2.2.2.1, I s24.2.2.2.2.1, .sl 1 s24.2.1.length], .rowv 185 6 s24.2.2.2.2.2.1.length (s24.2.2.2.2.2.1.flatMap e_laneref1_kept), .box 170 [I s24.2.2.2.2.2.2.1, I s24.2.2.2.2.2.2.2.1, I s24.2.2.2.2.2.2.2.2.1, .sv 3 s24.2.2.2.2.2.1.length]] ?_ ?_
                      · refine j_cond rfl (fun hb => ?_) (fun hb => ?_)
                        · have h75 := cT hq73 hb
                          refine go hΓ 1 rfl ?_
                          obtain rfl := Option.some.inj h75
                          exact ⟨⟨rfl, rfl, rfl, rfl, rfl, rfl, rfl, rfl, rfl, rfl, rfl, trivial⟩, [], rfl, .inl rfl⟩
                        · have h76 := cF hq73 hb
                          refine go hΓ 4 rfl ?_
                          obtain rfl := Option.some.inj h76
                          exact ⟨⟨rfl, rfl, rfl, rfl, rfl, rfl, rfl, rfl, rfl, rfl, rfl, trivial⟩, [], rfl, .inl rfl⟩
                      · refine go hΓ 1 rfl ?_
                        refine j_cond rfl (fun hb => ?_) (fun hb => ?_)
                        · have h77 := cT h74 hb
                          obtain ⟨y78, hy78, h79⟩ := bi_ok h77
                          refine go hΓ 6 rfl ?_
                          refine eo_callF [1, 2] (.tup [.d (Sl e_api_Record y78.1), B y78.2.1, I y78.2.2.1]) [.box 25 [.d (Sl (eN .i64) y49.2.L), I y49.2.v_at], .row 177 6 y78.2.2.2.list.length (y78.2.2.2.list.flatMap e_name_kept), .box 167 [I y78.2.2.2.most, I y78.2.2.2.now, I y78.2.2.2.calls, .sl 1 y78.2.2.2.list.length], .rowv 185 6 s24.2.2.2.2.2.1.length (s24.2.2.2.2.2.1.flatMap e_laneref1_kept), .box 170 [I s24.2.2.2.2.2.2.1, I s24.2.2.2.2.2.2.2.1, I s24.2.2.2.2.2.2.2.2.1, .sv 3 s24.2.2.2.2.2.1.length]] (callable Tryz.func44 rfl rfl) (c_name_Cache_Get hy78) rfl (Nat.le_of_ble_eq_true rfl) rfl rfl rfl rfl rfl rfl rfl rfl rfl rfl ?_
                          obtain ⟨y80, hy80, h81⟩ := bi_ok h79
                          refine go_ops hΓ 15 rfl ?_
                          refine eo_callF [3, 4] (.tup [.d (Sl e_api_Record y80.1), B y80.2.1, I y80.2.2.1]) [.box 25 [.d (Sl (eN .i64) y49.2.L), I y49.2.v_at], .row 177 6 y78.2.2.2.list.length (y78.2.2.2.list.flatMap e_name_kept), .box 167 [I y78.2.2.2.most, I y78.2.2.2.now, I y78.2.2.2.calls, .sl 1 y78.2.2.2.list.length], .rowv 185 6 y80.2.2.2.l.length (y80.2.2.2.l.flatMap e_laneref1_kept), .box 170 [I y80.2.2.2.most, I y80.2.2.2.now, I y80.2.2.2.calls, .sv 3 y80.2.2.2.l.length]] (callable Tryz.func45 rfl rfl) (c_laneref1_Cache_Get hy80) rfl (Nat.le_of_ble_eq_true rfl) rfl rfl rfl rfl rfl rfl rfl rfl rfl rfl ?_
                          refine go_ops hΓ 15 rfl ?_
                          refine o_cut 4 [(3, .ptr 0 0), (5, .ptr 2 0), (7, .ptr 4 0), (8, I (wi (s24.2.2.2.2.2.2.2.2.2 + y35.1))), (14, .d (Sl e_api_Record y78.1)), (17, .d (Sl e_api_Record y80.1)), (64, I y21.1), (65, I (i23 : Int)), (160, B (((y78.2.2.1 : Int) != y80.2.2.1) || (!((y78.2.1 : Bool) == y80.2.1))))] [.box 25 [.d (Sl (eN .i64) y49.2.L), I y49.2.v_at], .row 177 6 y78.2.2.2.list.length (y78.2.2.2.list.flatMap e_name_kept), .box 167 [I y78.2.2.2.most, I y78.2.2.2.now, I y78.2.2.2.calls, .sl 1 y78.2.2.2.list.length], .rowv 185 6 y80.2.2.2.l.length (y80.2.2.2.l.flatMap e_laneref1_kept), .box 170 [I y80.2.2.2.most, I y80.2.2.2.now, I y80.2.2.2.calls, .sv 3 y80.2.2.2.l.length]] ?_ ?_
                          · refine eo_gsplit rfl rfl (fun hb => ?_) (fun hb => ?_)
                            · refine go_ops hΓ 5 rfl ?_
                              exact ⟨⟨rfl, rfl, rfl, rfl, rfl, rfl, rfl, rfl, get_b rfl (or_t hb), trivial⟩, [], rfl, .inl rfl⟩
                            · refine go_ops hΓ 5 rfl ?_
                              exact ⟨⟨rfl, rfl, rfl, rfl, rfl, rfl, rfl, rfl, get_b rfl (or_f hb), trivial⟩, [], rfl, .inl rfl⟩
                          · refine go_ops hΓ 1 rfl ?_
                            obtain ⟨q82, hq82, h83⟩ := bi_ok h81
                            refine o_cut 5 [(3, .ptr 0 0), (5, .ptr 2 0), (7, .ptr 4 0), (8, I (wi (s24.2.2.2.2.2.2.2.2.2 + y35.1))), (64, I y21.1), (65, I (i23 : Int)), (166, B q82)] [.box 25 [.d (Sl (eN .i64) y49.2.L), I y49.2.v_at], .row 177 6 y78.2.2.2.list.length (y78.2.2.2.list.flatMap e_name_kept), .box 167 [I y78.2.2.2.most, I y78.2.2.2.now, I y78.2.2.2.calls, .sl 1 y78.2.2.2.list.length], .rowv 185 6 y80.2.2.2.l.length (y80.2.2.2.l.flatMap e_laneref1_kept), .box 170 [I y80.2.2.2.most, I y80.2.2.2.now, I y80.2.2.2.calls, .sv 3 y80.2.2.2.l.length]] ?_ ?_
                            · refine eo_gsplit rfl rfl (fun hb => ?_) (fun hb => ?_)
                              · have h84 := cT hq82 hb
                                refine go_ops hΓ 6 rfl ?_
                                obtain rfl := Option.some.inj h84
                                exact ⟨⟨rfl, rfl, rfl, rfl, rfl, rfl, rfl, trivial⟩, [], rfl, .inl rfl⟩
                              · have h85 := cF hq82 hb
                                obtain ⟨y86, hy86, h87⟩ := bi_ok h85
                                refine go_ops hΓ 2 rfl ?_
                                refine eo_guard rfl ?_
                                refine eo_callP (callable Tryz.func46 rfl rfl) (c_slices_Equal_api_Record_api_Record hy86) rfl (Nat.le_of_ble_eq_true rfl) rfl rfl rfl rfl rfl ?_
                                refine go_ops hΓ 3 rfl ?_
                                obtain rfl := Option.some.inj h87
                                exact ⟨⟨rfl, rfl, rfl, rfl, rfl, rfl, rfl, trivial⟩, [], rfl, .inl rfl⟩
                            · refine go_ops hΓ 2 rfl ?_
                              refine j_cond rfl (fun hb => ?_) (fun hb => ?_)
                              · have h88 := cT h83 hb
                                refine go hΓ 9 rfl ?_
                                obtain ⟨v89, hv89, h90⟩ := bi_ok h88
                                obtain rfl := Option.some.inj h90
                                obtain rfl := hout33 _ rfl
                                obtain rfl := Option.some.inj h27
                                refine go hΓ 4 rfl ?_
                                obtain rfl := Option.some.inj hv89
                                exact fin_pure hΓ (.inr rfl) rfl rfl
                              · have h91 := cF h83 hb
                                refine go hΓ 8 rfl ?_
                                obtain rfl := Option.some.inj h91
                                exact ⟨_, rfl, ⟨⟨rfl, rfl, rfl, rfl, rfl, get_eq rfl (w64_succ (by omega)), trivial⟩, [], rfl, .inl rfl⟩⟩
                        · have h92 := cF h74 hb
                          refine go hΓ 6 rfl ?_
                          refine j_cond rfl (fun hb => ?_) (fun hb => ?_)
                          · have h93 := cT h92 hb
                            refine go hΓ 3 rfl ?_
                            refine eo_litT hΓ (enc := eS) [[97, 46, 110, 101, 116, 46, 120], [110, 101, 116, 46, 120], []] rfl rfl rfl rfl rfl rfl rfl rfl rfl rfl rfl rfl (Nat.le_of_ble_eq_true rfl) ?_
                            obtain ⟨y94, hy94, h95⟩ := bi_ok h93
                            refine eo_callF [0] (S y94.1) [.box 25 [.d (Sl (eN .i64) y94.2.L), I y94.2.v_at], .row 177 6 s24.2.1.length (s24.2.1.flatMap e_name_kept), .box 167 [I s24.2.2.1, I s24.2.2.2.1, I s24.2.2.2.2.1, .sl 1 s24.2.1.length], .rowv 185 6 s24.2.2.2.2.2.1.length (s24.2.2.2.2.2.1.flatMap e_laneref1_kept), .box 170 [I s24.2.2.2.2.2.2.1, I s24.2.2.2.2.2.2.2.1, I s24.2.2.2.2.2.2.2.2.1, .sv 3 s24.2.2.2.2.2.1.length]] (callable Tryz.func40 rfl rfl) (c_lanemake_Stream_Some hy94) rfl (Nat.le_of_ble_eq_true rfl) rfl rfl rfl rfl rfl rfl rfl rfl rfl rfl ?_
                            obtain ⟨y96, hy96, h97⟩ := bi_ok h95
                            refine go_ops hΓ 8 rfl ?_
                            refine eo_callF [1, 2] (.tup [I y96.1, I y96.2.1]) [.box 25 [.d (Sl (eN .i64) y94.2.L), I y94.2.v_at], .row 177 6 y96.2.2.list.length (y96.2.2.list.flatMap e_name_kept), .box 167 [I y96.2.2.most, I y96.2.2.now, I y96.2.2.calls, .sl 1 y96.2.2.list.length], .rowv 185 6 s24.2.2.2.2.2.1.length (s24.2.2.2.2.2.1.flatMap e_laneref1_kept), .box 170 [I s24.2.2.2.2.2.2.1, I s24.2.2.2.2.2.2.2.1, I s24.2.2.2.2.2.2.2.2.1, .sv 3 s24.2.2.2.2.2.1.length]] (callable Tryz.func47 rfl rfl) (c_name_Cache_Drop hy96) rfl (Nat.le_of_ble_eq_true rfl) rfl rfl rfl rfl rfl rfl rfl rfl rfl rfl ?_
                            obtain ⟨y98, hy98, h99⟩ := bi_ok h97
                            refine go_ops hΓ 12 rfl ?_
                            refine eo_callF [3, 4] (.tup [I y98.1, I y98.2.1]) [.box 25 [.d (Sl (eN .i64) y94.2.L), I y94.2.v_at], .row 177 6 y96.2.2.list.length (y96.2.2.list.flatMap e_name_kept), .box 167 [I y96.2.2.most, I y96.2.2.now, I y96.2.2.calls, .sl 1 y96.2.2.list.length], .rowv 185 6 y98.2.2.l.length (y98.2.2.l.flatMap e_laneref1_kept), .box 170 [I y98.2.2.most, I y98.2.2.now, I y98.2.2.calls, .sv 3 y98.2.2.l.length]] (callable Tryz.func48 rfl rfl) (c_laneref1_Cache_Drop hy98) rfl (Nat.le_of_ble_eq_true rfl) rfl rfl rfl rfl rfl rfl rfl rfl rfl rfl ?_
                            refine go_ops hΓ 13 rfl ?_
                            refine o_cut 4 [(3, .ptr 0 0), (5, .ptr 2 0), (7, .ptr 4 0), (8, I (wi (s24.2.2.2.2.2.2.2.2.2 + y35.1))), (64, I y21.1), (65, I (i23 : Int)), (193, B (((y96.2.1 : Int) != y98.2.1) || ((y96.1 : Int) != y98.1)))] [.box 25 [.d (Sl (eN .i64) y94.2.L), I y94.2.v_at], .row 177 6 y96.2.2.list.length (y96.2.2.list.flatMap e_name_kept), .box 167 [I y96.2.2.most, I y96.2.2.now, I y96.2.2.calls, .sl 1 y96.2.2.list.length], .rowv 185 6 y98.2.2.l.length (y98.2.2.l.flatMap e_laneref1_kept), .box 170 [I y98.2.2.most, I y98.2.2.now, I y98.2.2.calls, .sv 3 y98.2.2.l.length]] ?_ ?_
                            · refine eo_gsplit rfl rfl (fun hb => ?_) (fun hb => ?_)
                              · refine go_ops hΓ 5 rfl ?_
                                exact ⟨⟨rfl, rfl, rfl, rfl, rfl, rfl, get_b rfl (or_t hb), trivial⟩, [], rfl, .inl rfl⟩
                              · refine go_ops hΓ 5 rfl ?_
                                exact ⟨⟨rfl, rfl, rfl, rfl, rfl, rfl, get_b rfl (or_f hb), trivial⟩, [], rfl, .inl rfl⟩
                            · refine go_ops hΓ 2 rfl ?_
                              refine j_cond rfl (fun hb => ?_) (fun hb => ?_)
                              · have h100 := cT h99 hb
                                refine go hΓ 9 rfl ?_
                                obtain ⟨v101, hv101, h102⟩ := bi_ok h100
                                obtain rfl := Option.some.inj h102
                                obtain rfl := hout33 _ rfl
                                obtain rfl := Option.some.inj h27
                                refine go hΓ 4 rfl ?_
                                obtain rfl := Option.some.inj hv101
                                exact fin_pure hΓ (.inr rfl) rfl rfl
                              · have h103 := cF h99 hb
                                refine go hΓ 8 rfl ?_
                                obtain rfl := Option.some.inj h103
                                exact ⟨_, rfl, ⟨⟨rfl, rfl, rfl, rfl, rfl, get_eq rfl (w64_succ (by omega)), trivial⟩, [], rfl, .inl rfl⟩⟩
                          · have h104 := cF h92 hb
                            obtain ⟨y105, hy105, h106⟩ := bi_ok h104
                            refine go hΓ 4 rfl ?_
                            refine eo_callF [1, 2] (.tup [I y105.1, I y105.2.1]) [.box 25 [.d (Sl (eN .i64) y49.2.L), I y49.2.v_at], .row 177 6 y105.2.2.list.length (y105.2.2.list.flatMap e_name_kept), .box 167 [I y105.2.2.most, I y105.2.2.now, I y105.2.2.calls, .sl 1 y105.2.2.list.length], .rowv 185 6 s24.2.2.2.2.2.1.length (s24.2.2.2.2.2.1.flatMap e_laneref1_kept), .box 170 [I s24.2.2.2.2.2.2.1, I s24.2.2.2.2.2.2.2.1, I s24.2.2.2.2.2.2.2.2.1, .sv 3 s24.2.2.2.2.2.1.length]] (callable Tryz.func49 rfl rfl) (c_name_Cache_Many hy105) rfl (Nat.le_of_ble_eq_true rfl) rfl rfl rfl rfl rfl rfl rfl rfl rfl rfl ?_
                            obtain ⟨y107, hy107, h108⟩ := bi_ok h106
                            refine go_ops hΓ 11 rfl ?_
                            refine eo_callF [3, 4] (.tup [I y107.1, I y107.2.1]) [.box 25 [.d (Sl (eN .i64) y49.2.L), I y49.2.v_at], .row 177 6 y105.2.2.list.length (y105.2.2.list.flatMap e_name_kept), .box 167 [I y105.2.2.most, I y105.2.2.now, I y105.2.2.calls, .sl 1 y105.2.2.list.length], .rowv 185 6 y107.2.2.l.length (y107.2.2.l.flatMap e_laneref1_kept), .box 170 [I y107.2.2.most, I y107.2.2.now, I y107.2.2.calls, .sv 3 y107.2.2.l.length]] (callable Tryz.func50 rfl rfl) (c_laneref1_Cache_Many hy107) rfl (Nat.le_of_ble_eq_true rfl) rfl rfl rfl rfl rfl rfl rfl rfl rfl rfl ?_
                            refine go_ops hΓ 13 rfl ?_
                            refine o_cut 4 [(3, .ptr 0 0), (5, .ptr 2 0), (7, .ptr 4 0), (8, I (wi (s24.2.2.2.2.2.2.2.2.2 + y35.1))), (64, I y21.1), (65, I (i23 : Int)), (105, B (((y105.2.1 : Int) != y107.2.1) || ((y105.1 : Int) != y107.1)))] [.box 25 [.d (Sl (eN .i64) y49.2.L), I y49.2.v_at], .row 177 6 y105.2.2.list.length (y105.2.2.list.flatMap e_name_kept), .box 167 [I y105.2.2.most, I y105.2.2.now, I y105.2.2.calls, .sl 1 y105.2.2.list.length], .rowv 185 6 y107.2.2.l.length (y107.2.2.l.flatMap e_laneref1_kept), .box 170 [I y107.2.2.most, I y107.2.2.now, I y107.2.2.calls, .sv 3 y107.2.2.l.length]] ?_ ?_
                            · refine eo_gsplit rfl rfl (fun hb => ?_) (fun hb => ?_)
                              · refine go_ops hΓ 5 rfl ?_
                                exact ⟨⟨rfl, rfl, rfl, rfl, rfl, rfl, get_b rfl (or_t hb), trivial⟩, [], rfl, .inl rfl⟩
                              · refine go_ops hΓ 5 rfl ?_
                                exact ⟨⟨rfl, rfl, rfl, rfl, rfl, rfl, get_b rfl (or_f hb), trivial⟩, [], rfl, .inl rfl⟩
                            · refine go_ops hΓ 2 rfl ?_
                              refine j_cond rfl (fun hb => ?_) (fun hb => ?_)
                              · have h109 := cT h108 hb
                                refine go hΓ 9 rfl ?_
                                obtain ⟨v110, hv110, h111⟩ := bi_ok h109
                                obtain rfl := Option.some.inj h111
                                obtain rfl := hout33 _ rfl
                                obtain rfl := Option.some.inj h27
                                refine go hΓ 4 rfl ?_
                                obtain rfl := Option.some.inj hv110
                                exact fin_pure hΓ (.inr rfl) rfl rfl
                              · have h112 := cF h108 hb
                                refine go hΓ 8 rfl ?_
                                obtain rfl := Option.some.inj h112
                                exact ⟨_, rfl, ⟨⟨rfl, rfl, rfl, rfl, rfl, get_eq rfl (w64_succ (by omega)), trivial⟩, [], rfl, .inl rfl⟩⟩
              · subst hgo
                refine go hΓ 6 rfl ?_
                refine j_condF rfl (decide_eq_false hge) ?_
                refine go hΓ 4 rfl ?_
                exact ⟨_, rfl, ⟨trivial, [], rfl, .inl rfl⟩⟩
            · intro a28 ha
              subst ha
              replace h27 := goI_l h27
              obtain ⟨y113, hy113, h114⟩ := bi_ok h27
              refine go hΓ 3 rfl ?_
              refine eo_callP (callable Tryz.func24 rfl rfl) (c_lanelaw1_named hy113) rfl (Nat.le_of_ble_eq_true rfl) rfl rfl rfl rfl rfl ?_
              refine go_ops hΓ 4 rfl ?_
              obtain rfl := Option.some.inj h114
              exact fin_pure hΓ (.inr rfl) rfl rfl
end Go.Proofs.YtfnjahjbpaoepaaGreatDoor
