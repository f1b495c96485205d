/-
  The functions compute their models.
-/
import Derived.Test.YtnjnmkpgedkffaaDoorXRM
import Derived.Test.YtnjnmkpgedkffaaDoorGt
import Derived.Test.YtnjnmkpgedkffaaDoorStrR
import Derived.Test.YtnjnmkpgedkffaaDoorXRW1
set_option linter.unusedVariables false
set_option linter.unusedSimpArgs false
set_option maxRecDepth 100000
namespace Go.Proofs.YtnjnmkpgedkffaaDoor
open Go.Gk
set_option maxHeartbeats 8000000 in
theorem c_laneref1_HomeTurns {l : List T_api_Probe} {gain : Int} {node : Str} {al : BagT} {r : (List T_api_Turn) × BagT} (h : m_laneref1_HomeTurns l gain node al = some r) : EC Tryd.prog 21 [.d (Sl e_api_Probe l), I gain, S node] [.bag al.1 (arX al.2) []] fun g hp' => g = .sl 1 r.1.length ∧ hp' = [.bag r.2.1 (arX r.2.2) [], .row 45 3 r.1.length (r.1.flatMap e_api_Turn)] := by
  refine ec_enterC (Fr.of 0 _) Tryd.func21 rfl (Fr.of_ok _) (Nat.le_of_ble_eq_true rfl) fun _ => ?_
  refine go_in ?_
  unfold m_laneref1_HomeTurns at h
  refine go hΓ 7 rfl ?_
  refine eo_s (Nat.le_of_ble_eq_true rfl) (nblt.1 rfl) (ops_makeMap false) ?_
  refine eo_hp [.bag al.1 (arX al.2) [], mOb (kI .i64) false (eH none) ([] : List (Int × Nat))] rfl ?_
  refine go_ops hΓ 5 rfl ?_
  refine eo_nilOwn (t := 0) 3 1 rfl (Nat.le_of_ble_eq_true rfl) ?_
  refine go_ops hΓ 10 rfl ?_
  obtain ⟨q4, hq4, h5⟩ := bi_ok h
  refine j_bound 21 rfl fun hb7 => ?_
  refine j_cutNZ [(1, I gain), (7, .map 1), (8, .sl 2 q4.2.2.length)] [.bag q4.1.1 (arX q4.1.2) [], mOb (kI .i64) false (eH none) q4.2.1, .row 3 1 q4.2.2.length (q4.2.2.flatMap (eN .i64))] ?_ ?_
  · refine go hΓ 1 rfl ?_
    refine j_rangeF l hq4 (fun i1 s2 => [(1, I gain), (2, S node), (7, .map 1), (8, .sl 2 s2.2.2.length), (21, .d (Sl e_api_Probe l)), (22, I (l.length : Int)), (23, I (i1 : Int))]) (fun s2 => [.bag s2.1.1 (arX s2.1.2) [], mOb (kI .i64) false (eH none) s2.2.1, .row 3 1 s2.2.2.length (s2.2.2.flatMap (eN .i64))]) ⟨⟨rfl, rfl, rfl, rfl, rfl, rfl, rfl, trivial⟩, [], rfl, .inl rfl⟩ (fun i1 x3 s2 y11 hx8 hlt hy9 => ?_) (?_)
    · refine go hΓ 6 rfl ?_
      refine j_condT rfl (decide_eq_true (Int.ofNat_lt.2 hlt)) ?_
      refine go hΓ 6 rfl ?_
      refine eo_o rfl (op_elemZ hΓ (enc := e_api_Probe) (getZ_nat hx8) rfl rfl rfl rfl rfl (fun _ => rfl)) ?_
      refine go_ops hΓ 1 rfl ?_
      refine eo_alloc hΓ rfl rfl rfl (Nat.le_of_ble_eq_true rfl) ?_
      refine eo_store hΓ rfl rfl rfl rfl rfl rfl rfl rfl (Nat.le_of_ble_eq_true rfl) ?_
      refine eo_hp [.bag s2.1.1 (arX s2.1.2) [], mOb (kI .i64) false (eH none) s2.2.1, .row 3 1 s2.2.2.length (s2.2.2.flatMap (eN .i64)), .box 67 [I x3.At, S x3.Node, S x3.Relay, I x3.Millis]] rfl ?_
      refine go_ops hΓ 11 rfl ?_
      refine j_cond rfl (fun hb => ?_) (fun hb => ?_)
      · have h12 := cT hy9 hb
        refine go hΓ 8 rfl ?_
        obtain rfl := Option.some.inj h12
        exact ⟨⟨rfl, rfl, rfl, rfl, rfl, rfl, get_eq rfl (w64_succ (Nat.lt_of_lt_of_le hlt hb7)), trivial⟩, [_], rfl, .inr ⟨HB.mk rfl, FB.mk rfl, (Nat.le_of_ble_eq_true rfl)⟩⟩
      · have h13 := cF hy9 hb
        refine go hΓ 8 rfl ?_
        refine eo_o rfl (op_lookupG hΓ (kv := (kI .i64)) (agg := false) (enc := (eH none)) s2.2.1 x3.At (0 : Nat) rfl rfl rfl rfl (key_int .i64) rfl rfl rfl (zdv_hd rfl) rfl) ?_
        refine eo_o rfl ((op_isNilM hΓ rfl rfl rfl rfl).1) ?_
        obtain ⟨q14, hq14, h15⟩ := bi_ok h13
        refine go_ops hΓ 2 rfl ?_
        refine j_cutNZ [(1, I gain), (2, S node), (7, .map 1), (8, .sl 2 q14.2.2.length), (10, .ptr 3 0), (21, .d (Sl e_api_Probe l)), (22, I (l.length : Int)), (23, I (i1 : Int))] [.bag q14.1.1 (arX q14.1.2) [], mOb (kI .i64) false (eH none) q14.2.1, .row 3 1 q14.2.2.length (q14.2.2.flatMap (eN .i64)), .box 67 [I x3.At, S x3.Node, S x3.Relay, I x3.Millis]] ?_ ?_
        · refine j_cond rfl (fun hb => ?_) (fun hb => ?_)
          · have h16 := cT hq14 hb
            refine go hΓ 5 rfl ?_
            refine eo_s (Nat.le_of_ble_eq_true rfl) (nblt.1 rfl) (ops_makeMap false) ?_
            refine eo_hp [.bag s2.1.1 (arX s2.1.2) [], mOb (kI .i64) false (eH none) s2.2.1, .row 3 1 s2.2.2.length (s2.2.2.flatMap (eN .i64)), .box 67 [I x3.At, S x3.Node, S x3.Relay, I x3.Millis], mOb kS false (eN .i64) ([] : List (Str × Int))] rfl ?_
            refine eo_hput (bg := 0) (id := 4) (a := (fM kS false (eN .i64)) s2.1.1.length ([] : List (Str × Int))) [(39, none)] [.bag (s2.1.1 ++ [false]) (arX ((s2.1.1.length, ([] : List (Str × Int))) :: s2.1.2)) [], mOb (kI .i64) false (eH none) s2.2.1, .row 3 1 s2.2.2.length (s2.2.2.flatMap (eN .i64)), .box 67 [I x3.At, S x3.Node, S x3.Relay, I x3.Millis], .dead] ⟨rfl, trivial⟩ rfl rfl ⟨rfl, rfl⟩ rfl rfl arN_here rfl (Nat.le_of_ble_eq_true rfl) ?_
            refine eo_u (Nat.le_of_ble_eq_true rfl) (opu_mapUpdate hΓ (kv := (kI .i64)) (agg := false) (enc := (eH none)) (id := 1) s2.2.1 x3.At (s2.1.1.length + 1) rfl rfl rfl (key_int .i64) rfl rfl rfl rfl rfl) ?_
            refine eo_hp [.bag (s2.1.1 ++ [false]) (arX ((s2.1.1.length, ([] : List (Str × Int))) :: s2.1.2)) [], mOb (kI .i64) false (eH none) (mSet s2.2.1 x3.At (s2.1.1.length + 1)), .row 3 1 s2.2.2.length (s2.2.2.flatMap (eN .i64)), .box 67 [I x3.At, S x3.Node, S x3.Relay, I x3.Millis], .dead] rfl ?_
            refine go_ops hΓ 6 rfl ?_
            refine eo_litT hΓ (enc := (eN .i64)) [x3.At] rfl rfl rfl rfl rfl rfl rfl rfl rfl rfl rfl rfl (Nat.le_of_ble_eq_true rfl) ?_
            obtain ⟨y17, hy17, h18⟩ := bi_ok h16
            refine eo_appendT hΓ (enc := (eN .i64)) hy17 rfl rfl rfl rfl rfl rfl rfl rfl rfl (fun _ => rfl) rfl rfl rfl rfl ?_
            refine go_ops hΓ 2 rfl ?_
            obtain rfl := Option.some.inj h18
            exact ⟨⟨rfl, rfl, rfl, rfl, rfl, rfl, rfl, rfl, trivial⟩, [_], rfl, .inr ⟨HB.mk rfl, FB.mk rfl, (Nat.le_of_ble_eq_true rfl)⟩⟩
          · have h19 := cF hq14 hb
            refine go hΓ 1 rfl ?_
            obtain rfl := Option.some.inj h19
            exact ⟨⟨rfl, rfl, rfl, rfl, rfl, rfl, rfl, rfl, trivial⟩, [], rfl, .inl rfl⟩
        · refine go hΓ 8 rfl ?_
          refine j_cond rfl (fun hb => ?_) (fun hb => ?_)
          · have h20 := cT h15 hb
            refine go hΓ 4 rfl ?_
            refine eo_o rfl (op_lookupG hΓ (kv := (kI .i64)) (agg := false) (enc := (eH none)) q14.2.1 x3.At (0 : Nat) rfl rfl rfl rfl (key_int .i64) rfl rfl rfl (zdv_hd rfl) rfl) ?_
            obtain ⟨m21, hm21, h22⟩ := bi_ok h20
            refine go_ops hΓ 4 rfl ?_
            refine eo_u (Nat.le_of_ble_eq_true rfl) (opu_mapUpdateH hΓ (bg := 0) (kv := kS) (agg := false) (enc := (eN .i64)) m21 x3.Relay x3.Millis rfl rfl (arU_here (fun _ _ => rfl) hm21 (mSet m21 x3.Relay x3.Millis)) rfl rfl rfl key_str rfl rfl (fun e => by cases e) rfl rfl) ?_
            refine eo_hp [.bag q14.1.1 (arX (hSet q14.1.2 ((mGet q14.2.1 x3.At).getD 0) (mSet m21 x3.Relay x3.Millis))) [], mOb (kI .i64) false (eH none) q14.2.1, .row 3 1 q14.2.2.length (q14.2.2.flatMap (eN .i64)), .box 67 [I x3.At, S x3.Node, S x3.Relay, I x3.Millis]] rfl ?_
            refine go_ops hΓ 7 rfl ?_
            obtain rfl := Option.some.inj h22
            exact ⟨⟨rfl, rfl, rfl, rfl, rfl, rfl, get_eq rfl (w64_succ (Nat.lt_of_lt_of_le hlt hb7)), trivial⟩, [_], rfl, .inr ⟨HB.mk rfl, FB.mk rfl, (Nat.le_of_ble_eq_true rfl)⟩⟩
          · have h23 := cF h15 hb
            refine go hΓ 7 rfl ?_
            obtain rfl := Option.some.inj h23
            exact ⟨⟨rfl, rfl, rfl, rfl, rfl, rfl, get_eq rfl (w64_succ (Nat.lt_of_lt_of_le hlt hb7)), trivial⟩, [_], rfl, .inr ⟨HB.mk rfl, FB.mk rfl, (Nat.le_of_ble_eq_true rfl)⟩⟩
    · refine go hΓ 6 rfl ?_
      refine j_condF rfl (decide_eq_false (Int.lt_irrefl _)) ?_
      refine go hΓ 4 rfl ?_
      exact ⟨⟨rfl, rfl, rfl, trivial⟩, [], rfl, .inl rfl⟩
  · refine go hΓ 4 rfl ?_
    refine eo_litT hΓ (enc := (eN .i64)) [345686400] rfl rfl rfl rfl rfl rfl rfl rfl rfl rfl rfl rfl (Nat.le_of_ble_eq_true rfl) ?_
    obtain ⟨y24, hy24, h25⟩ := bi_ok h5
    refine eo_appendT hΓ (enc := (eN .i64)) hy24 rfl rfl rfl rfl rfl rfl rfl rfl rfl (fun _ => rfl) rfl rfl rfl rfl ?_
    refine go_ops hΓ 5 rfl ?_
    refine eo_nilOwn (t := 0) 45 3 rfl (Nat.le_of_ble_eq_true rfl) ?_
    refine go_ops hΓ 14 rfl ?_
    refine eo_shr 2 [8, 59, 60, 61] _ [.bag q4.1.1 (arX q4.1.2) [], mOb (kI .i64) false (eH none) q4.2.1, .dead, .row 45 3 ([] : List T_api_Turn).length (([] : List T_api_Turn).flatMap e_api_Turn)] rfl rfl rfl (Nat.le_of_ble_eq_true rfl) ?_
    obtain ⟨z26, hz26, h27⟩ := bi_ok h25
    refine eo_o rfl (op_subRoZ hΓ (enc := (eN .i64)) hz26 rfl rfl rfl rfl rfl rfl (fun _ => rfl)) ?_
    refine go_ops hΓ 4 rfl ?_
    obtain ⟨q31, hq31, h32⟩ := bi_ok h27
    refine j_bound 64 rfl fun hb34 => ?_
    refine j_cutNZ [(11, .sl 3 q31.1.length)] [.bag q4.1.1 (arX q4.1.2) [], mOb (kI .i64) false (eH none) q4.2.1, .dead, .row 45 3 q31.1.length (q31.1.flatMap e_api_Turn)] ?_ ?_
    · refine go hΓ 1 rfl ?_
      refine j_rangeF z26 hq31 (fun i28 s29 => [(1, I gain), (7, .map 1), (8, .d (Sl (eN .i64) y24)), (11, .sl 3 s29.1.length), (12, S s29.2), (64, .d (Sl (eN .i64) z26)), (65, I (z26.length : Int)), (66, I (i28 : Int))]) (fun s29 => [.bag q4.1.1 (arX q4.1.2) [], mOb (kI .i64) false (eH none) q4.2.1, .dead, .row 45 3 s29.1.length (s29.1.flatMap e_api_Turn)]) ⟨⟨rfl, rfl, rfl, rfl, rfl, rfl, rfl, rfl, trivial⟩, [], rfl, .inl rfl⟩ (fun i28 x30 s29 y38 hx35 hlt hy36 => ?_) (?_)
      · refine go hΓ 6 rfl ?_
        refine j_condT rfl (decide_eq_true (Int.ofNat_lt.2 hlt)) ?_
        refine go hΓ 7 rfl ?_
        refine eo_o rfl (op_elemZ hΓ (enc := (eN .i64)) (getZ_nat hx35) rfl rfl rfl rfl rfl (fun _ => rfl)) ?_
        refine go_ops hΓ 15 rfl ?_
        refine eo_o rfl (op_lookupG hΓ (kv := (kI .i64)) (agg := false) (enc := (eH none)) q4.2.1 x30 (0 : Nat) rfl rfl rfl rfl (key_int .i64) rfl rfl rfl (zdv_hd rfl) rfl) ?_
        obtain ⟨m39, hm39, h40⟩ := bi_ok hy36
        refine eo_hlendD (bg := 0) 73 [.bag q4.1.1 (arX (hDel q4.1.2 ((mGet q4.2.1 x30).getD 0))) [(((mGet q4.2.1 x30).getD 0) - 1, 4)], mOb (kI .i64) false (eH none) q4.2.1, .dead, .row 45 3 s29.1.length (s29.1.flatMap e_api_Turn), mOb kS false (eN .i64) m39] rfl rfl (arD_here (fun _ _ => rfl) hm39) rfl (Nat.le_of_ble_eq_true rfl) ?_
        refine eo_range hΓ (kv := kS) (agg := false) (enc := (eN .i64)) m39 rfl rfl rfl rfl rfl (Nat.le_of_ble_eq_true rfl) (fun mr41 bs42 cl43 hpm44 hbl45 hbn46 => ?_)
        refine eo_hp [.bag q4.1.1 (arX (hDel q4.1.2 ((mGet q4.2.1 x30).getD 0))) [(((mGet q4.2.1 x30).getD 0) - 1, 4)], mOb (kI .i64) false (eH none) q4.2.1, .dead, .row 45 3 s29.1.length (s29.1.flatMap e_api_Turn), mObS kS false (eN .i64) m39 (rawM kS (eN .i64) mr41 bs42 cl43), .iter 4 cl43 []] rfl ?_
        refine go_ops hΓ 2 rfl ?_
        obtain ⟨q52, hq52, h53⟩ := bi_ok h40
        refine go hΓ 1 rfl ?_
        refine j_rangeP hq52 hpm44 hbl45 hbn46 (fun s47 => [(1, I gain), (7, .map 1), (8, .d (Sl (eN .i64) y24)), (11, .sl 3 s29.1.length), (12, S s29.2), (13, I (i28 : Int)), (14, I x30), (15, S s47), (64, .d (Sl (eN .i64) z26)), (65, I (z26.length : Int)), (66, I (i28 : Int)), (74, .ptr 5 0)]) (fun sn49 s47 => [.bag q4.1.1 (arX (hDel q4.1.2 ((mGet q4.2.1 x30).getD 0))) [(((mGet q4.2.1 x30).getD 0) - 1, 4)], mOb (kI .i64) false (eH none) q4.2.1, .dead, .row 45 3 s29.1.length (s29.1.flatMap e_api_Turn), mObS kS false (eN .i64) m39 (rawM kS (eN .i64) mr41 bs42 cl43), .iter 4 cl43 sn49]) ⟨⟨rfl, rfl, rfl, rfl, rfl, rfl, rfl, rfl, rfl, rfl, rfl, rfl, trivial⟩, [], rfl, .inl rfl⟩ (fun sn49 s47 hdone54 hstep55 => ?_)
        refine go hΓ 2 rfl ?_
        refine eo_next (kv := kS) (agg := false) (enc := (eN .i64)) m39 mr41 bs42 cl43 sn49 [.bag q4.1.1 (arX (hDel q4.1.2 ((mGet q4.2.1 x30).getD 0))) [(((mGet q4.2.1 x30).getD 0) - 1, 4)], mOb (kI .i64) false (eH none) q4.2.1, .dead, .row 45 3 s29.1.length (s29.1.flatMap e_api_Turn), mOb kS false (eN .i64) m39, .dead] rfl rfl rfl rfl rfl (Nat.le_of_ble_eq_true rfl) (fun hdsn49 => ?_) (fun j50 x48 b51 hjsn49 hbsn49 hnsn49 => ?_)
        · have hqsn49 := hdone54 hdsn49
          subst hqsn49
          refine go_ops hΓ 3 rfl ?_
          refine j_hbackD (bg := 0) (id := 4) (a := fM kS false (eN .i64) (((mGet q4.2.1 x30).getD 0) - 1) m39) [.bag q4.1.1 (arX q4.1.2) [], mOb (kI .i64) false (eH none) q4.2.1, .dead, .row 45 3 s29.1.length (s29.1.flatMap e_api_Turn), .dead, .dead] (arD_here (fun _ _ => rfl) hm39) rfl rfl rfl ⟨rfl, rfl⟩ rfl (Nat.le_of_ble_eq_true rfl) ?_
          refine go hΓ 11 rfl ?_
          refine eo_o rfl (op_lookupG hΓ (kv := (kI .i64)) (agg := false) (enc := (eH none)) q4.2.1 x30 (0 : Nat) rfl rfl rfl rfl (key_int .i64) rfl rfl rfl (zdv_hd rfl) rfl) ?_
          obtain ⟨m56, hm56, h57⟩ := bi_ok h53
          refine go_ops hΓ 1 rfl ?_
          refine eo_o rfl (op_lookupOkH hΓ (bg := 0) (kv := kS) (agg := false) (enc := (eN .i64)) m56 s29.2 (0 : Int) rfl rfl (arU_here (fun _ _ => rfl) hm56 m56) rfl rfl rfl rfl key_str rfl (zdv_plain rfl rfl rfl) rfl rfl) ?_
          refine go_ops hΓ 13 rfl ?_
          obtain ⟨q58, hq58, h59⟩ := bi_ok h57
          refine o_cut 14 [(1, I gain), (7, .map 1), (8, .d (Sl (eN .i64) y24)), (11, .sl 3 s29.1.length), (12, S s29.2), (13, I (i28 : Int)), (14, I x30), (15, S q52), (64, .d (Sl (eN .i64) z26)), (65, I (z26.length : Int)), (66, I (i28 : Int)), (130, B q58)] [.bag q4.1.1 (arX q4.1.2) [], mOb (kI .i64) false (eH none) q4.2.1, .dead, .row 45 3 s29.1.length (s29.1.flatMap e_api_Turn), .dead, .dead] ?_ ?_
          · refine eo_gsplit rfl rfl (fun hb => ?_) (fun hb => ?_)
            · have h60 := cT hq58 hb
              refine go_ops hΓ 2 rfl ?_
              obtain ⟨q61, hq61, h62⟩ := bi_ok h60
              refine o_cut 10 [(1, I gain), (7, .map 1), (8, .d (Sl (eN .i64) y24)), (11, .sl 3 s29.1.length), (12, S s29.2), (13, I (i28 : Int)), (14, I x30), (15, S q52), (64, .d (Sl (eN .i64) z26)), (65, I (z26.length : Int)), (66, I (i28 : Int)), (116, B true), (128, B q61)] [.bag q4.1.1 (arX q4.1.2) [], mOb (kI .i64) false (eH none) q4.2.1, .dead, .row 45 3 s29.1.length (s29.1.flatMap e_api_Turn), .dead, .dead] ?_ ?_
              · refine eo_gsplit rfl rfl (fun hb => ?_) (fun hb => ?_)
                · have h63 := cT hq61 hb
                  refine go_ops hΓ 3 rfl ?_
                  refine eo_guard rfl ?_
                  refine eo_o rfl (op_lookupG hΓ (kv := (kI .i64)) (agg := false) (enc := (eH none)) q4.2.1 x30 (0 : Nat) rfl rfl rfl rfl (key_int .i64) rfl rfl rfl (zdv_hd rfl) rfl) ?_
                  obtain ⟨m64, hm64, h65⟩ := bi_ok h63
                  refine go_ops hΓ 1 rfl ?_
                  refine eo_guard rfl ?_
                  refine eo_o rfl (op_lookupH hΓ (bg := 0) (kv := kS) (agg := false) (enc := (eN .i64)) m64 q52 (0 : Int) rfl rfl (arU_here (fun _ _ => rfl) hm64 m64) rfl rfl rfl rfl key_str rfl (zdv_plain rfl rfl rfl) rfl rfl) ?_
                  refine go_ops hΓ 5 rfl ?_
                  obtain rfl := Option.some.inj h65
                  exact ⟨⟨rfl, rfl, rfl, rfl, rfl, rfl, rfl, rfl, rfl, rfl, rfl, rfl, rfl, trivial⟩, [], rfl, .inl rfl⟩
                · have h66 := cF hq61 hb
                  refine go_ops hΓ 11 rfl ?_
                  obtain rfl := Option.some.inj h66
                  exact ⟨⟨rfl, rfl, rfl, rfl, rfl, rfl, rfl, rfl, rfl, rfl, rfl, rfl, rfl, trivial⟩, [], rfl, .inl rfl⟩
              · refine go_ops hΓ 3 rfl ?_
                obtain rfl := Option.some.inj h62
                exact ⟨⟨rfl, rfl, rfl, rfl, rfl, rfl, rfl, rfl, rfl, rfl, rfl, rfl, trivial⟩, [], rfl, .inl rfl⟩
            · have h67 := cF hq58 hb
              refine go_ops hΓ 15 rfl ?_
              obtain rfl := Option.some.inj h67
              exact ⟨⟨rfl, rfl, rfl, rfl, rfl, rfl, rfl, rfl, rfl, rfl, rfl, rfl, trivial⟩, [], rfl, .inl rfl⟩
          · obtain ⟨q68, hq68, h69⟩ := bi_ok h59
            refine go_ops hΓ 2 rfl ?_
            refine j_cutNZ [(1, I gain), (7, .map 1), (8, .d (Sl (eN .i64) y24)), (11, .sl 3 s29.1.length), (12, S q68), (13, I (i28 : Int)), (14, I x30), (64, .d (Sl (eN .i64) z26)), (65, I (z26.length : Int)), (66, I (i28 : Int))] [.bag q4.1.1 (arX q4.1.2) [], mOb (kI .i64) false (eH none) q4.2.1, .dead, .row 45 3 s29.1.length (s29.1.flatMap e_api_Turn), .dead, .dead] ?_ ?_
            · refine j_cond rfl (fun hb => ?_) (fun hb => ?_)
              · have h70 := cT hq68 hb
                refine go hΓ 4 rfl ?_
                obtain rfl := Option.some.inj h70
                exact ⟨⟨rfl, rfl, rfl, rfl, rfl, rfl, rfl, rfl, rfl, rfl, trivial⟩, [], rfl, .inl rfl⟩
              · have h71 := cF hq68 hb
                refine go hΓ 1 rfl ?_
                obtain rfl := Option.some.inj h71
                exact ⟨⟨rfl, rfl, rfl, rfl, rfl, rfl, rfl, rfl, rfl, rfl, trivial⟩, [], rfl, .inl rfl⟩
            · obtain ⟨x72, hx72, h73⟩ := bi_ok h69
              refine go hΓ 8 rfl ?_
              refine eo_o rfl (op_elemZ hΓ (enc := (eN .i64)) hx72 rfl rfl rfl rfl rfl (fun _ => rfl)) ?_
              obtain ⟨y74, hy74, h75⟩ := bi_ok h73
              refine go_ops hΓ 1 rfl ?_
              refine eo_callF [3] (.sl 6 y74.length) [.bag q4.1.1 (arX q4.1.2) [], mOb (kI .i64) false (eH none) q4.2.1, .dead, .dead, .dead, .dead, .row 45 3 y74.length (y74.flatMap e_api_Turn)] (callable Tryd.func55 rfl rfl) (c_laneref1_addTurn hy74) rfl (Nat.le_of_ble_eq_true rfl) rfl rfl rfl rfl rfl rfl rfl rfl rfl rfl ?_
              refine go_ops hΓ 1 rfl ?_
              refine eo_move 6 3 [.bag q4.1.1 (arX q4.1.2) [], mOb (kI .i64) false (eH none) q4.2.1, .dead, .row 45 3 y74.length (y74.flatMap e_api_Turn), .dead, .dead, .dead] rfl rfl rfl rfl rfl rfl ?_
              refine go_ops hΓ 7 rfl ?_
              obtain rfl := Option.some.inj h75
              exact ⟨⟨rfl, rfl, rfl, rfl, rfl, rfl, rfl, get_eq rfl (w64_succ (Nat.lt_of_lt_of_le hlt hb34)), trivial⟩, [_, _, _], rfl, .inr ⟨HB.mk rfl, FB.mk rfl, (Nat.le_of_ble_eq_true rfl)⟩⟩
        · obtain ⟨s76, h77⟩ := hstep55 j50 x48 b51 hjsn49 hbsn49 hnsn49
          have hssn49 := h77
          refine go_ops hΓ 10 rfl ?_
          refine eo_o rfl (op_entry (kv := kS) (agg := false) (enc := (eN .i64)) m39 mr41 bs42 cl43 sn49 hjsn49 hbsn49 rfl rfl rfl rfl (fun _ => rfl)) ?_
          refine go_ops hΓ 11 rfl ?_
          refine o_cut 8 [(1, I gain), (7, .map 1), (8, .d (Sl (eN .i64) y24)), (11, .sl 3 s29.1.length), (12, S s29.2), (13, I (i28 : Int)), (14, I x30), (15, S s47), (16, S x48.1), (17, I x48.2), (64, .d (Sl (eN .i64) z26)), (65, I (z26.length : Int)), (66, I (i28 : Int)), (74, .ptr 5 0), (90, B (((s47 : Str) == []) || (decide ((x48.2 : Int) < ((mGet m39 s47).getD 0)))))] [.bag q4.1.1 (arX (hDel q4.1.2 ((mGet q4.2.1 x30).getD 0))) [(((mGet q4.2.1 x30).getD 0) - 1, 4)], mOb (kI .i64) false (eH none) q4.2.1, .dead, .row 45 3 s29.1.length (s29.1.flatMap e_api_Turn), mObS kS false (eN .i64) m39 (rawM kS (eN .i64) mr41 bs42 cl43), .iter 4 cl43 (sn49 ++ [b51])] ?_ ?_
          · refine eo_gsplit rfl rfl (fun hb => ?_) (fun hb => ?_)
            · refine go_ops hΓ 9 rfl ?_
              exact ⟨⟨rfl, rfl, rfl, rfl, rfl, rfl, rfl, rfl, rfl, rfl, rfl, rfl, rfl, rfl, get_b rfl (or_t hb), trivial⟩, [], rfl, .inl rfl⟩
            · refine go_ops hΓ 3 rfl ?_
              refine eo_guard rfl ?_
              refine eo_o rfl (op_lookupG hΓ (kv := (kI .i64)) (agg := false) (enc := (eH none)) q4.2.1 x30 (0 : Nat) rfl rfl rfl rfl (key_int .i64) rfl rfl rfl (zdv_hd rfl) rfl) ?_
              refine go_ops hΓ 1 rfl ?_
              refine eo_guard rfl ?_
              refine eo_o rfl (op_hlent 86 (hGet_pos hm39) rfl (bg := 0) (id := 4) rfl (.head _) (op_lookupG hΓ (kv := kS) (agg := false) (enc := (eN .i64)) m39 s47 (0 : Int) rfl rfl rfl rfl key_str rfl rfl rfl (zdv_plain rfl rfl rfl) rfl)) ?_
              refine go_ops hΓ 3 rfl ?_
              exact ⟨⟨rfl, rfl, rfl, rfl, rfl, rfl, rfl, rfl, rfl, rfl, rfl, rfl, rfl, rfl, get_b rfl (or_f hb), trivial⟩, [], rfl, .inl rfl⟩
          · refine go_ops hΓ 1 rfl ?_
            refine o_cut 13 [(1, I gain), (7, .map 1), (8, .d (Sl (eN .i64) y24)), (11, .sl 3 s29.1.length), (12, S s29.2), (13, I (i28 : Int)), (14, I x30), (15, S s47), (16, S x48.1), (64, .d (Sl (eN .i64) z26)), (65, I (z26.length : Int)), (66, I (i28 : Int)), (74, .ptr 5 0), (104, B ((((s47 : Str) == []) || (decide ((x48.2 : Int) < ((mGet m39 s47).getD 0)))) || (((x48.2 : Int) == ((mGet m39 s47).getD 0)) && (Op.bytesLess x48.1 s47))))] [.bag q4.1.1 (arX (hDel q4.1.2 ((mGet q4.2.1 x30).getD 0))) [(((mGet q4.2.1 x30).getD 0) - 1, 4)], mOb (kI .i64) false (eH none) q4.2.1, .dead, .row 45 3 s29.1.length (s29.1.flatMap e_api_Turn), mObS kS false (eN .i64) m39 (rawM kS (eN .i64) mr41 bs42 cl43), .iter 4 cl43 (sn49 ++ [b51])] ?_ ?_
            · refine eo_gsplit rfl rfl (fun hb => ?_) (fun hb => ?_)
              · refine go_ops hΓ 14 rfl ?_
                exact ⟨⟨rfl, rfl, rfl, rfl, rfl, rfl, rfl, rfl, rfl, rfl, rfl, rfl, rfl, get_b rfl (or_t hb), trivial⟩, [], rfl, .inl rfl⟩
              · refine go_ops hΓ 3 rfl ?_
                refine eo_guard rfl ?_
                refine eo_o rfl (op_lookupG hΓ (kv := (kI .i64)) (agg := false) (enc := (eH none)) q4.2.1 x30 (0 : Nat) rfl rfl rfl rfl (key_int .i64) rfl rfl rfl (zdv_hd rfl) rfl) ?_
                refine go_ops hΓ 1 rfl ?_
                refine eo_guard rfl ?_
                refine eo_o rfl (op_hlent 95 (hGet_pos hm39) rfl (bg := 0) (id := 4) rfl (.head _) (op_lookupG hΓ (kv := kS) (agg := false) (enc := (eN .i64)) m39 s47 (0 : Int) rfl rfl rfl rfl key_str rfl rfl rfl (zdv_plain rfl rfl rfl) rfl)) ?_
                refine go_ops hΓ 2 rfl ?_
                refine o_cut 4 [(1, I gain), (7, .map 1), (8, .d (Sl (eN .i64) y24)), (11, .sl 3 s29.1.length), (12, S s29.2), (13, I (i28 : Int)), (14, I x30), (15, S s47), (16, S x48.1), (64, .d (Sl (eN .i64) z26)), (65, I (z26.length : Int)), (66, I (i28 : Int)), (74, .ptr 5 0), (91, B false), (103, B (((x48.2 : Int) == ((mGet m39 s47).getD 0)) && (Op.bytesLess x48.1 s47)))] [.bag q4.1.1 (arX (hDel q4.1.2 ((mGet q4.2.1 x30).getD 0))) [(((mGet q4.2.1 x30).getD 0) - 1, 4)], mOb (kI .i64) false (eH none) q4.2.1, .dead, .row 45 3 s29.1.length (s29.1.flatMap e_api_Turn), mObS kS false (eN .i64) m39 (rawM kS (eN .i64) mr41 bs42 cl43), .iter 4 cl43 (sn49 ++ [b51])] ?_ ?_
                · refine eo_gsplit rfl rfl (fun hb => ?_) (fun hb => ?_)
                  · refine go_ops hΓ 5 rfl ?_
                    exact ⟨⟨rfl, rfl, rfl, rfl, rfl, rfl, rfl, rfl, rfl, rfl, rfl, rfl, rfl, rfl, get_b rfl (and_t hb), trivial⟩, [], rfl, .inl rfl⟩
                  · refine go_ops hΓ 5 rfl ?_
                    exact ⟨⟨rfl, rfl, rfl, rfl, rfl, rfl, rfl, rfl, rfl, rfl, rfl, rfl, rfl, rfl, get_b rfl (and_f hb), trivial⟩, [], rfl, .inl rfl⟩
                · refine go_ops hΓ 2 rfl ?_
                  exact ⟨⟨rfl, rfl, rfl, rfl, rfl, rfl, rfl, rfl, rfl, rfl, rfl, rfl, rfl, get_b rfl (or_f hb), trivial⟩, [], rfl, .inl rfl⟩
            · refine go_ops hΓ 2 rfl ?_
              refine j_cond rfl (fun hb => ?_) (fun hb => ?_)
              · have h78 := cT h77 hb
                refine go hΓ 5 rfl ?_
                obtain rfl := Option.some.inj h78
                exact ⟨j50, x48, b51, _, hjsn49, hbsn49, hnsn49, hssn49, ⟨⟨rfl, rfl, rfl, rfl, rfl, rfl, rfl, rfl, rfl, rfl, rfl, rfl, trivial⟩, [], rfl, .inl rfl⟩⟩
              · have h79 := cF h77 hb
                refine go hΓ 2 rfl ?_
                obtain rfl := Option.some.inj h79
                exact ⟨j50, x48, b51, _, hjsn49, hbsn49, hnsn49, hssn49, ⟨⟨rfl, rfl, rfl, rfl, rfl, rfl, rfl, rfl, rfl, rfl, rfl, rfl, trivial⟩, [], rfl, .inl rfl⟩⟩
      · refine go hΓ 6 rfl ?_
        refine j_condF rfl (decide_eq_false (Int.lt_irrefl _)) ?_
        refine go hΓ 4 rfl ?_
        exact ⟨⟨rfl, trivial⟩, [], rfl, .inl rfl⟩
    · refine go hΓ 8 rfl ?_
      refine cv_kill 1 [.bag q4.1.1 (arX q4.1.2) [], .dead, .dead, .row 45 3 q31.1.length (q31.1.flatMap e_api_Turn)] rfl (Nat.le_of_ble_eq_true rfl) ?_
      refine cv_move 3 1 [.bag q4.1.1 (arX q4.1.2) [], .row 45 3 q31.1.length (q31.1.flatMap e_api_Turn), .dead, .dead] rfl rfl rfl rfl rfl rfl ?_
      refine cv_here ?_
      obtain rfl := Option.some.inj h32
      exact fin_objs hΓ [_, _] (.inr rfl) rfl rfl rfl rfl (.inr ⟨HB.mk rfl, rfl⟩)
theorem c_laneref1_turnAt {l : List T_api_Turn} {v_at : Int} {r : Str} (h : m_laneref1_turnAt l v_at = some r) : Pure Tryd.prog 54 [.d (Sl e_api_Turn l), I v_at] (S r) := by
  refine Pure.enter (Fr.of 0 _) Tryd.func54 rfl (Fr.of_ok _) rfl rfl ?_
  refine go_in ?_
  unfold m_laneref1_turnAt at h
  refine go hΓ 13 rfl ?_
  obtain ⟨q4, hq4, h5⟩ := bi_ok h
  refine j_bound 7 rfl fun hb7 => ?_
  refine j_cutEZ (R := fun a6 => q4 = .go a6) (fun a6 => []) (fun a6 => []) ?_ ?_
  · refine go hΓ 1 rfl ?_
    refine j_range l hq4 (fun i1 s2 => [(1, I v_at), (7, .d (Sl e_api_Turn l)), (8, I (l.length : Int)), (9, I (i1 : Int))]) (fun s2 => []) ⟨⟨rfl, rfl, rfl, rfl, trivial⟩, [], rfl, .inl rfl⟩ (fun i1 x3 s2 y11 hx8 hlt hy9 hout10 => ?_) (fun s2 hgo => ?_)
    · refine go hΓ 6 rfl ?_
      refine j_condT rfl (decide_eq_true (Int.ofNat_lt.2 hlt)) ?_
      refine go hΓ 6 rfl ?_
      refine eo_o rfl (op_elemZ hΓ (enc := e_api_Turn) (getZ_nat hx8) rfl rfl rfl rfl rfl (fun _ => rfl)) ?_
      refine go_ops hΓ 1 rfl ?_
      refine eo_alloc hΓ rfl rfl rfl (Nat.le_of_ble_eq_true rfl) ?_
      refine eo_store hΓ rfl rfl rfl rfl rfl rfl rfl rfl (Nat.le_of_ble_eq_true rfl) ?_
      refine eo_hp [.box 45 [S x3.Who, I x3.From, I x3.To]] rfl ?_
      refine go_ops hΓ 9 rfl ?_
      refine o_cut 5 [(1, I v_at), (6, .ptr 0 0), (7, .d (Sl e_api_Turn l)), (8, I (l.length : Int)), (9, I (i1 : Int)), (22, B ((decide ((x3.From : Int) ≤ v_at)) && (decide ((v_at : Int) < x3.To))))] [.box 45 [S x3.Who, I x3.From, I x3.To]] ?_ ?_
      · refine eo_gsplit rfl rfl (fun hb => ?_) (fun hb => ?_)
        · refine go_ops hΓ 6 rfl ?_
          exact ⟨⟨rfl, rfl, rfl, rfl, rfl, get_b rfl (and_t hb), trivial⟩, [], rfl, .inl rfl⟩
        · refine go_ops hΓ 6 rfl ?_
          exact ⟨⟨rfl, rfl, rfl, rfl, rfl, get_b rfl (and_f hb), trivial⟩, [], rfl, .inl rfl⟩
      · refine go_ops hΓ 2 rfl ?_
        refine j_cond rfl (fun hb => ?_) (fun hb => ?_)
        · have h12 := cT hy9 hb
          refine go hΓ 10 rfl ?_
          obtain ⟨v13, hv13, h14⟩ := bi_ok h12
          obtain rfl := Option.some.inj h14
          obtain rfl := hout10 _ rfl
          obtain rfl := Option.some.inj h5
          refine go hΓ 4 rfl ?_
          obtain rfl := Option.some.inj hv13
          exact fin_pure hΓ (.inr rfl) rfl rfl
        · have h15 := cF hy9 hb
          refine go hΓ 7 rfl ?_
          obtain rfl := Option.some.inj h15
          exact ⟨_, rfl, ⟨⟨rfl, rfl, rfl, get_eq rfl (w64_succ (Nat.lt_of_lt_of_le hlt hb7)), trivial⟩, [_], rfl, .inr ⟨HB.mk rfl, FB.mk rfl, (Nat.le_of_ble_eq_true rfl)⟩⟩⟩
    · subst hgo
      refine go hΓ 6 rfl ?_
      refine j_condF rfl (decide_eq_false (Int.lt_irrefl _)) ?_
      refine go hΓ 4 rfl ?_
      exact ⟨_, rfl, ⟨trivial, [], rfl, .inl rfl⟩⟩
  · intro a6 ha
    subst ha
    replace h5 := goI_l h5
    refine go hΓ 7 rfl ?_
    obtain rfl := Option.some.inj h5
    exact fin_pure hΓ (.inr rfl) rfl rfl
theorem c_laneref1_HomeAt {l : List T_api_Probe} {gain : Int} {node : Str} {v_at : Int} {al : BagT} {r : Str × BagT} (h : m_laneref1_HomeAt l gain node v_at al = some r) : EC Tryd.prog 18 [.d (Sl e_api_Probe l), I gain, S node, I v_at] [.bag al.1 (arX al.2) []] fun g hp' => g = S r.1 ∧ hp' = [.bag r.2.1 (arX r.2.2) []] := by
  refine ec_enter (Fr.of 0 _) Tryd.func18 rfl (Fr.of_ok _) (Nat.le_of_ble_eq_true rfl) fun _ => ?_
  refine go_in ?_
  unfold m_laneref1_HomeAt at h
  obtain ⟨y1, hy1, h2⟩ := bi_ok h
  refine go hΓ 10 rfl ?_
  refine eo_callF [0] (.sl 1 y1.1.length) [.bag y1.2.1 (arX y1.2.2) [], .row 45 3 y1.1.length (y1.1.flatMap e_api_Turn)] (callable Tryd.func21 rfl rfl) (c_laneref1_HomeTurns hy1) rfl (Nat.le_of_ble_eq_true rfl) rfl rfl rfl rfl rfl rfl rfl rfl rfl rfl ?_
  refine eo_shr 1 [12] _ [.bag y1.2.1 (arX y1.2.2) [], .dead] rfl rfl rfl (Nat.le_of_ble_eq_true rfl) ?_
  obtain ⟨y3, hy3, h4⟩ := bi_ok h2
  refine go_ops hΓ 1 rfl ?_
  refine eo_callP (callable Tryd.func54 rfl rfl) (c_laneref1_turnAt hy3) rfl (Nat.le_of_ble_eq_true rfl) rfl rfl rfl rfl rfl ?_
  refine go_ops hΓ 4 rfl ?_
  obtain rfl := Option.some.inj h4
  exact fin_objs hΓ [_] (.inr rfl) rfl rfl rfl rfl (.inr ⟨HB.mk rfl, rfl⟩)
theorem c_laneref1_lastMillis {l : List T_api_Probe} {node : Str} {relay : Str} {v_at : Int} {r : Int} (h : m_laneref1_lastMillis l node relay v_at = some r) : Pure Tryd.prog 62 [.d (Sl e_api_Probe l), S node, S relay, I v_at] (I r) := by
  refine Pure.enter (Fr.of 0 _) Tryd.func62 rfl (Fr.of_ok _) rfl rfl ?_
  refine go_in ?_
  unfold m_laneref1_lastMillis at h
  refine go hΓ 18 rfl ?_
  obtain ⟨q4, hq4, h5⟩ := bi_ok h
  refine j_bound 12 rfl fun hb7 => ?_
  refine j_cutNZ [(9, I q4)] [] ?_ ?_
  · refine go hΓ 1 rfl ?_
    refine j_rangeF l hq4 (fun i1 s2 => [(1, S node), (2, S relay), (3, I v_at), (9, I s2), (12, .d (Sl e_api_Probe l)), (13, I (l.length : Int)), (14, I (i1 : Int))]) (fun s2 => []) ⟨⟨rfl, rfl, rfl, rfl, rfl, rfl, rfl, trivial⟩, [], rfl, .inl rfl⟩ (fun i1 x3 s2 y11 hx8 hlt hy9 => ?_) (?_)
    · refine go hΓ 6 rfl ?_
      refine j_condT rfl (decide_eq_true (Int.ofNat_lt.2 hlt)) ?_
      refine go hΓ 6 rfl ?_
      refine eo_o rfl (op_elemZ hΓ (enc := e_api_Probe) (getZ_nat hx8) rfl rfl rfl rfl rfl (fun _ => rfl)) ?_
      refine go_ops hΓ 1 rfl ?_
      refine eo_alloc hΓ rfl rfl rfl (Nat.le_of_ble_eq_true rfl) ?_
      refine eo_store hΓ rfl rfl rfl rfl rfl rfl rfl rfl (Nat.le_of_ble_eq_true rfl) ?_
      refine eo_hp [.box 67 [I x3.At, S x3.Node, S x3.Relay, I x3.Millis]] rfl ?_
      refine go_ops hΓ 9 rfl ?_
      refine o_cut 5 [(1, S node), (2, S relay), (3, I v_at), (9, I s2), (11, .ptr 0 0), (12, .d (Sl e_api_Probe l)), (13, I (l.length : Int)), (14, I (i1 : Int)), (27, B (((x3.Node : Str) == node) && ((x3.Relay : Str) == relay)))] [.box 67 [I x3.At, S x3.Node, S x3.Relay, I x3.Millis]] ?_ ?_
      · refine eo_gsplit rfl rfl (fun hb => ?_) (fun hb => ?_)
        · refine go_ops hΓ 6 rfl ?_
          exact ⟨⟨rfl, rfl, rfl, rfl, rfl, rfl, rfl, rfl, get_b rfl (and_t hb), trivial⟩, [], rfl, .inl rfl⟩
        · refine go_ops hΓ 6 rfl ?_
          exact ⟨⟨rfl, rfl, rfl, rfl, rfl, rfl, rfl, rfl, get_b rfl (and_f hb), trivial⟩, [], rfl, .inl rfl⟩
      · refine go_ops hΓ 1 rfl ?_
        refine o_cut 5 [(1, S node), (2, S relay), (3, I v_at), (9, I s2), (11, .ptr 0 0), (12, .d (Sl e_api_Probe l)), (13, I (l.length : Int)), (14, I (i1 : Int)), (33, B ((((x3.Node : Str) == node) && ((x3.Relay : Str) == relay)) && (decide ((x3.At : Int) ≤ v_at))))] [.box 67 [I x3.At, S x3.Node, S x3.Relay, I x3.Millis]] ?_ ?_
        · refine eo_gsplit rfl rfl (fun hb => ?_) (fun hb => ?_)
          · refine go_ops hΓ 6 rfl ?_
            exact ⟨⟨rfl, rfl, rfl, rfl, rfl, rfl, rfl, rfl, get_b rfl (and_t hb), trivial⟩, [], rfl, .inl rfl⟩
          · refine go_ops hΓ 6 rfl ?_
            exact ⟨⟨rfl, rfl, rfl, rfl, rfl, rfl, rfl, rfl, get_b rfl (and_f hb), trivial⟩, [], rfl, .inl rfl⟩
        · refine go_ops hΓ 1 rfl ?_
          refine o_cut 4 [(1, S node), (2, S relay), (3, I v_at), (9, I s2), (11, .ptr 0 0), (12, .d (Sl e_api_Probe l)), (13, I (l.length : Int)), (14, I (i1 : Int)), (38, B (((((x3.Node : Str) == node) && ((x3.Relay : Str) == relay)) && (decide ((x3.At : Int) ≤ v_at))) && (decide ((x3.Millis : Int) ≥ 0))))] [.box 67 [I x3.At, S x3.Node, S x3.Relay, I x3.Millis]] ?_ ?_
          · refine eo_gsplit rfl rfl (fun hb => ?_) (fun hb => ?_)
            · refine go_ops hΓ 5 rfl ?_
              exact ⟨⟨rfl, rfl, rfl, rfl, rfl, rfl, rfl, rfl, get_b rfl (and_t hb), trivial⟩, [], rfl, .inl rfl⟩
            · refine go_ops hΓ 5 rfl ?_
              exact ⟨⟨rfl, rfl, rfl, rfl, rfl, rfl, rfl, rfl, get_b rfl (and_f hb), trivial⟩, [], rfl, .inl rfl⟩
          · refine go_ops hΓ 2 rfl ?_
            refine j_cond rfl (fun hb => ?_) (fun hb => ?_)
            · have h12 := cT hy9 hb
              refine go hΓ 11 rfl ?_
              obtain rfl := Option.some.inj h12
              exact ⟨⟨rfl, rfl, rfl, rfl, rfl, rfl, get_eq rfl (w64_succ (Nat.lt_of_lt_of_le hlt hb7)), trivial⟩, [_], rfl, .inr ⟨HB.mk rfl, FB.mk rfl, (Nat.le_of_ble_eq_true rfl)⟩⟩
            · have h13 := cF hy9 hb
              refine go hΓ 7 rfl ?_
              obtain rfl := Option.some.inj h13
              exact ⟨⟨rfl, rfl, rfl, rfl, rfl, rfl, get_eq rfl (w64_succ (Nat.lt_of_lt_of_le hlt hb7)), trivial⟩, [_], rfl, .inr ⟨HB.mk rfl, FB.mk rfl, (Nat.le_of_ble_eq_true rfl)⟩⟩
    · refine go hΓ 6 rfl ?_
      refine j_condF rfl (decide_eq_false (Int.lt_irrefl _)) ?_
      refine go hΓ 4 rfl ?_
      exact ⟨⟨rfl, trivial⟩, [], rfl, .inl rfl⟩
  · refine go hΓ 8 rfl ?_
    obtain rfl := Option.some.inj h5
    exact fin_pure hΓ (.inr rfl) rfl rfl
theorem c_laneref1_RelayedAt {k : Nat} {l : List T_api_Probe} {links : List T_api_Link} {gain : Int} {a : Str} {b : Str} {v_at : Int} {al : BagT} {r : (List Str) × Int × Bool × BagT} (h : m_laneref1_RelayedAt k l links gain a b v_at al = some r) : EC Tryd.prog 30 [.d (Sl e_api_Probe l), .d (Sl e_api_Link links), I gain, S a, S b, I v_at] [.bag al.1 (arX al.2) []] fun g hp' => g = .tup [.d (Sl eS r.1), I r.2.1, B r.2.2.1] ∧ hp' = [.bag r.2.2.2.1 (arX r.2.2.2.2) []] := by
  refine ec_enter (Fr.of 0 _) Tryd.func30 rfl (Fr.of_ok _) (Nat.le_of_ble_eq_true rfl) fun _ => ?_
  refine go_in ?_
  unfold m_laneref1_RelayedAt at h
  obtain ⟨y1, hy1, h2⟩ := bi_ok h
  refine go hΓ 13 rfl ?_
  refine eo_callF [0] (S y1.1) [.bag y1.2.1 (arX y1.2.2) []] (callable Tryd.func18 rfl rfl) (c_laneref1_HomeAt hy1) rfl (Nat.le_of_ble_eq_true rfl) rfl rfl rfl rfl rfl rfl rfl rfl rfl rfl ?_
  obtain ⟨y3, hy3, h4⟩ := bi_ok h2
  refine go_ops hΓ 4 rfl ?_
  refine eo_callF [0] (S y3.1) [.bag y3.2.1 (arX y3.2.2) []] (callable Tryd.func18 rfl rfl) (c_laneref1_HomeAt hy3) rfl (Nat.le_of_ble_eq_true rfl) rfl rfl rfl rfl rfl rfl rfl rfl rfl rfl ?_
  refine go_ops hΓ 10 rfl ?_
  refine o_cut 3 [(0, .d (Sl e_api_Probe l)), (1, .d (Sl e_api_Link links)), (3, S a), (4, S b), (5, I v_at), (15, S y1.1), (16, S y3.1), (35, B (((y1.1 : Str) == []) || ((y3.1 : Str) == [])))] [.bag y3.2.1 (arX y3.2.2) []] ?_ ?_
  · refine eo_gsplit rfl rfl (fun hb => ?_) (fun hb => ?_)
    · refine go_ops hΓ 4 rfl ?_
      exact ⟨⟨rfl, rfl, rfl, rfl, rfl, rfl, rfl, get_b rfl (or_t hb), trivial⟩, [], rfl, .inl rfl⟩
    · refine go_ops hΓ 4 rfl ?_
      exact ⟨⟨rfl, rfl, rfl, rfl, rfl, rfl, rfl, get_b rfl (or_f hb), trivial⟩, [], rfl, .inl rfl⟩
  · refine go_ops hΓ 2 rfl ?_
    refine j_cond rfl (fun hb => ?_) (fun hb => ?_)
    · have h5 := cT h4 hb
      refine go hΓ 9 rfl ?_
      obtain rfl := Option.some.inj h5
      exact fin_objs hΓ [] (.inr rfl) rfl rfl rfl rfl (.inl rfl)
    · have h6 := cF h4 hb
      obtain ⟨y7, hy7, h8⟩ := bi_ok h6
      refine go hΓ 7 rfl ?_
      refine eo_callP (callable Tryd.func27 rfl rfl) (c_laneref1_TrailOf hy7) rfl (Nat.le_of_ble_eq_true rfl) rfl rfl rfl rfl rfl ?_
      refine go_ops hΓ 16 rfl ?_
      refine j_cond rfl (fun hb => ?_) (fun hb => ?_)
      · have h9 := cT h8 hb
        refine go hΓ 9 rfl ?_
        obtain rfl := Option.some.inj h9
        exact fin_objs hΓ [] (.inr rfl) rfl rfl rfl rfl (.inl rfl)
      · have h10 := cF h8 hb
        obtain ⟨y11, hy11, h12⟩ := bi_ok h10
        refine go hΓ 10 rfl ?_
        refine eo_callP (callable Tryd.func62 rfl rfl) (c_laneref1_lastMillis hy11) rfl (Nat.le_of_ble_eq_true rfl) rfl rfl rfl rfl rfl ?_
        obtain ⟨y13, hy13, h14⟩ := bi_ok h12
        refine eo_o rfl (op_quoZ hy13 rfl rfl) ?_
        obtain ⟨y15, hy15, h16⟩ := bi_ok h14
        refine go_ops hΓ 5 rfl ?_
        refine eo_callP (callable Tryd.func62 rfl rfl) (c_laneref1_lastMillis hy15) rfl (Nat.le_of_ble_eq_true rfl) rfl rfl rfl rfl rfl ?_
        obtain ⟨y17, hy17, h18⟩ := bi_ok h16
        refine eo_o rfl (op_quoZ hy17 rfl rfl) ?_
        refine go_ops hΓ 7 rfl ?_
        obtain rfl := Option.some.inj h18
        exact fin_objs hΓ [] (.inr rfl) rfl rfl rfl rfl (.inl rfl)
set_option maxHeartbeats 8000000 in
theorem c_lanelaw1_RelaysJoin {k : Nat} {l : List Int} {al : BagT} {r : Bool × BagT} (h : m_lanelaw1_RelaysJoin k l al = some r) : EC Tryd.prog 4 [.d (Sl (eN .i64) l)] [.bag al.1 (arX al.2) []] fun g hp' => g = B r.1 ∧ hp' = [.bag r.2.1 (arX r.2.2) []] := by
  refine ec_enter (Fr.of 0 _) Tryd.func4 rfl (Fr.of_ok _) (Nat.le_of_ble_eq_true rfl) fun _ => ?_
  refine go_in ?_
  unfold m_lanelaw1_RelaysJoin at h
  refine go hΓ 8 rfl ?_
  refine eo_build hΓ (gs := [.d (Sl (eN .i64) l), I 0]) rfl rfl rfl rfl rfl rfl rfl ?_
  refine eo_box rfl rfl rfl rfl (Nat.le_of_ble_eq_true rfl) ?_
  obtain ⟨y1, hy1, h2⟩ := bi_ok h
  refine go_ops hΓ 6 rfl ?_
  refine eo_callF [1] (.sl 2 y1.1.length) [.bag al.1 (arX al.2) [], .box 25 [.d (Sl (eN .i64) y1.2.L), I y1.2.v_at], .row 80 3 y1.1.length (y1.1.flatMap e_api_Link)] (callable Tryd.func23 rfl rfl) (c_lanemake_Stream_Links hy1) rfl (Nat.le_of_ble_eq_true rfl) rfl rfl rfl rfl rfl rfl rfl rfl rfl rfl ?_
  refine eo_shr 2 [30] _ [.bag al.1 (arX al.2) [], .box 25 [.d (Sl (eN .i64) y1.2.L), I y1.2.v_at], .dead] rfl rfl rfl (Nat.le_of_ble_eq_true rfl) ?_
  refine go_ops hΓ 1 rfl ?_
  refine eo_litT hΓ (enc := eS) [[102, 114, 97], [108, 111, 110], [110, 121, 99], [122, 122], []] rfl rfl rfl rfl rfl rfl rfl rfl rfl rfl rfl rfl (Nat.le_of_ble_eq_true rfl) ?_
  obtain ⟨y3, hy3, h4⟩ := bi_ok h2
  refine eo_callF [1] (S y3.1) [.bag al.1 (arX al.2) [], .box 25 [.d (Sl (eN .i64) y3.2.L), I y3.2.v_at], .dead] (callable Tryd.func9 rfl rfl) (c_lanemake_Stream_Some hy3) rfl (Nat.le_of_ble_eq_true rfl) rfl rfl rfl rfl rfl rfl rfl rfl rfl rfl ?_
  refine go_ops hΓ 1 rfl ?_
  refine eo_litT hΓ (enc := eS) [[102, 114, 97], [115, 121, 100], [116, 111, 107], [65]] rfl rfl rfl rfl rfl rfl rfl rfl rfl rfl rfl rfl (Nat.le_of_ble_eq_true rfl) ?_
  obtain ⟨y5, hy5, h6⟩ := bi_ok h4
  refine eo_callF [1] (S y5.1) [.bag al.1 (arX al.2) [], .box 25 [.d (Sl (eN .i64) y5.2.L), I y5.2.v_at], .dead] (callable Tryd.func9 rfl rfl) (c_lanemake_Stream_Some hy5) rfl (Nat.le_of_ble_eq_true rfl) rfl rfl rfl rfl rfl rfl rfl rfl rfl rfl ?_
  obtain ⟨y7, hy7, h8⟩ := bi_ok h6
  refine go_ops hΓ 9 rfl ?_
  refine eo_callF [1] (I y7.1) [.bag al.1 (arX al.2) [], .box 25 [.d (Sl (eN .i64) y7.2.L), I y7.2.v_at], .dead] (callable Tryd.func7 rfl rfl) (c_lanemake_Stream_Range hy7) rfl (Nat.le_of_ble_eq_true rfl) rfl rfl rfl rfl rfl rfl rfl rfl rfl rfl ?_
  obtain ⟨y9, hy9, h10⟩ := bi_ok h8
  refine eo_callF [1] (.sl 3 y9.1.length) [.bag al.1 (arX al.2) [], .box 25 [.d (Sl (eN .i64) y9.2.L), I y9.2.v_at], .dead, .row 67 4 y9.1.length (y9.1.flatMap e_api_Probe)] (callable Tryd.func6 rfl rfl) (c_lanemake_Stream_Probes hy9) rfl (Nat.le_of_ble_eq_true rfl) rfl rfl rfl rfl rfl rfl rfl rfl rfl rfl ?_
  refine eo_shr 3 [40] _ [.bag al.1 (arX al.2) [], .box 25 [.d (Sl (eN .i64) y9.2.L), I y9.2.v_at], .dead, .dead] rfl rfl rfl (Nat.le_of_ble_eq_true rfl) ?_
  refine go_ops hΓ 1 rfl ?_
  refine eo_litT hΓ (enc := (eN .i64)) [0, 5, -1] rfl rfl rfl rfl rfl rfl rfl rfl rfl rfl rfl rfl (Nat.le_of_ble_eq_true rfl) ?_
  obtain ⟨y11, hy11, h12⟩ := bi_ok h10
  refine eo_callF [1] (I y11.1) [.bag al.1 (arX al.2) [], .box 25 [.d (Sl (eN .i64) y11.2.L), I y11.2.v_at], .dead, .dead] (callable Tryd.func8 rfl rfl) (c_lanemake_Stream_Pick hy11) rfl (Nat.le_of_ble_eq_true rfl) rfl rfl rfl rfl rfl rfl rfl rfl rfl rfl ?_
  refine go_ops hΓ 1 rfl ?_
  refine eo_litT hΓ (enc := eS) [[110, 97], [110, 97], []] rfl rfl rfl rfl rfl rfl rfl rfl rfl rfl rfl rfl (Nat.le_of_ble_eq_true rfl) ?_
  obtain ⟨y13, hy13, h14⟩ := bi_ok h12
  refine eo_callF [1] (S y13.1) [.bag al.1 (arX al.2) [], .box 25 [.d (Sl (eN .i64) y13.2.L), I y13.2.v_at], .dead, .dead] (callable Tryd.func9 rfl rfl) (c_lanemake_Stream_Some hy13) rfl (Nat.le_of_ble_eq_true rfl) rfl rfl rfl rfl rfl rfl rfl rfl rfl rfl ?_
  refine go_ops hΓ 1 rfl ?_
  refine eo_litT hΓ (enc := eS) [[110, 98], [110, 98], [110, 97]] rfl rfl rfl rfl rfl rfl rfl rfl rfl rfl rfl rfl (Nat.le_of_ble_eq_true rfl) ?_
  obtain ⟨y15, hy15, h16⟩ := bi_ok h14
  refine eo_callF [1] (S y15.1) [.bag al.1 (arX al.2) [], .box 25 [.d (Sl (eN .i64) y15.2.L), I y15.2.v_at], .dead, .dead] (callable Tryd.func9 rfl rfl) (c_lanemake_Stream_Some hy15) rfl (Nat.le_of_ble_eq_true rfl) rfl rfl rfl rfl rfl rfl rfl rfl rfl rfl ?_
  refine go_ops hΓ 1 rfl ?_
  refine eo_litT hΓ (enc := (eN .i64)) [0, 10, 30, -1] rfl rfl rfl rfl rfl rfl rfl rfl rfl rfl rfl rfl (Nat.le_of_ble_eq_true rfl) ?_
  obtain ⟨y17, hy17, h18⟩ := bi_ok h16
  refine eo_callF [1] (I y17.1) [.bag al.1 (arX al.2) [], .box 25 [.d (Sl (eN .i64) y17.2.L), I y17.2.v_at], .dead, .dead] (callable Tryd.func8 rfl rfl) (c_lanemake_Stream_Pick hy17) rfl (Nat.le_of_ble_eq_true rfl) rfl rfl rfl rfl rfl rfl rfl rfl rfl rfl ?_
  obtain ⟨y19, hy19, h20⟩ := bi_ok h18
  refine go_ops hΓ 12 rfl ?_
  refine eo_callF [0] (.tup [.d (Sl eS y19.1), I y19.2.1, I y19.2.2.1]) [.bag y19.2.2.2.1 (arX y19.2.2.2.2) [], .box 25 [.d (Sl (eN .i64) y17.2.L), I y17.2.v_at], .dead, .dead] (callable Tryd.func24 rfl rfl) (c_route_Through hy19) rfl (Nat.le_of_ble_eq_true rfl) rfl rfl rfl rfl rfl rfl rfl rfl rfl rfl ?_
  obtain ⟨y21, hy21, h22⟩ := bi_ok h20
  refine go_ops hΓ 12 rfl ?_
  refine eo_callP (callable Tryd.func25 rfl rfl) (c_laneref1_LinksFault hy21) rfl (Nat.le_of_ble_eq_true rfl) rfl rfl rfl rfl rfl ?_
  obtain ⟨y23, hy23, h24⟩ := bi_ok h22
  refine go_ops hΓ 7 rfl ?_
  refine eo_callP (callable Tryd.func26 rfl rfl) (c_route_CheckLinks hy23) rfl (Nat.le_of_ble_eq_true rfl) rfl rfl rfl rfl rfl ?_
  refine go_ops hΓ 4 rfl ?_
  refine j_cond rfl (fun hb => ?_) (fun hb => ?_)
  · have h25 := cT h24 hb
    refine go hΓ 7 rfl ?_
    obtain rfl := Option.some.inj h25
    exact fin_objs hΓ [_, _, _] (.inr rfl) rfl rfl rfl rfl (.inr ⟨HB.mk rfl, rfl⟩)
  · have h26 := cF h24 hb
    obtain ⟨y27, hy27, h28⟩ := bi_ok h26
    refine go hΓ 6 rfl ?_
    refine eo_callP (callable Tryd.func16 rfl rfl) (c_laneref1_KeyFault hy27) rfl (Nat.le_of_ble_eq_true rfl) rfl rfl rfl rfl rfl ?_
    obtain ⟨y29, hy29, h30⟩ := bi_ok h28
    refine go_ops hΓ 1 rfl ?_
    refine eo_callP (callable Tryd.func16 rfl rfl) (c_laneref1_KeyFault hy29) rfl (Nat.le_of_ble_eq_true rfl) rfl rfl rfl rfl rfl ?_
    refine eo_litT hΓ (enc := (eN .i64)) [y21, y27, y29] rfl rfl rfl rfl rfl rfl rfl rfl rfl rfl rfl rfl (Nat.le_of_ble_eq_true rfl) ?_
    obtain ⟨y31, hy31, h32⟩ := bi_ok h30
    refine eo_callP (callable Tryd.func14 rfl rfl) (c_cmp_Or_api_Errno hy31) rfl (Nat.le_of_ble_eq_true rfl) rfl rfl rfl rfl rfl ?_
    obtain ⟨q33, hq33, h34⟩ := bi_ok h32
    refine go_ops hΓ 20 rfl ?_
    refine j_cutNZ [(4, .d (Sl e_api_Link y1.1)), (7, .d (Sl e_api_Probe y9.1)), (8, I y11.1), (9, S y13.1), (10, S y15.1), (11, I y17.1), (12, .d (Sl eS y19.1)), (13, I y19.2.1), (14, I y19.2.2.1), (15, I y21), (16, I q33.1), (17, .d (Sl eS q33.2.1)), (18, I q33.2.2)] [.bag y19.2.2.2.1 (arX y19.2.2.2.2) [], .box 25 [.d (Sl (eN .i64) y17.2.L), I y17.2.v_at], .dead, .dead] ?_ ?_
    · refine j_cond rfl (fun hb => ?_) (fun hb => ?_)
      · have h35 := cT hq33 hb
        obtain ⟨y36, hy36, h37⟩ := bi_ok h35
        refine go hΓ 5 rfl ?_
        refine eo_callP (callable Tryd.func27 rfl rfl) (c_laneref1_TrailOf hy36) rfl (Nat.le_of_ble_eq_true rfl) rfl rfl rfl rfl rfl ?_
        obtain ⟨y38, hy38, h39⟩ := bi_ok h37
        refine go_ops hΓ 13 rfl ?_
        refine eo_callP (callable Tryd.func19 rfl rfl) (c_lanelaw1_when hy38) rfl (Nat.le_of_ble_eq_true rfl) rfl rfl rfl rfl rfl ?_
        refine go_ops hΓ 8 rfl ?_
        refine j_cond rfl (fun hb => ?_) (fun hb => ?_)
        · have h40 := cT h39 hb
          refine go hΓ 6 rfl ?_
          obtain rfl := Option.some.inj h40
          exact ⟨⟨rfl, rfl, rfl, rfl, rfl, rfl, rfl, rfl, rfl, rfl, rfl, rfl, rfl, trivial⟩, [], rfl, .inl rfl⟩
        · have h41 := cF h39 hb
          refine go hΓ 1 rfl ?_
          obtain rfl := Option.some.inj h41
          exact ⟨⟨rfl, rfl, rfl, rfl, rfl, rfl, rfl, rfl, rfl, rfl, rfl, rfl, rfl, trivial⟩, [], rfl, .inl rfl⟩
      · have h42 := cF hq33 hb
        refine go hΓ 1 rfl ?_
        obtain rfl := Option.some.inj h42
        exact ⟨⟨rfl, rfl, rfl, rfl, rfl, rfl, rfl, rfl, rfl, rfl, rfl, rfl, rfl, trivial⟩, [], rfl, .inl rfl⟩
    · refine go hΓ 8 rfl ?_
      obtain ⟨q43, hq43, h44⟩ := bi_ok h34
      refine o_cut 5 [(4, .d (Sl e_api_Link y1.1)), (7, .d (Sl e_api_Probe y9.1)), (8, I y11.1), (9, S y13.1), (10, S y15.1), (11, I y17.1), (13, I y19.2.1), (15, I y21), (18, I q33.2.2), (98, B q43)] [.bag y19.2.2.2.1 (arX y19.2.2.2.2) [], .box 25 [.d (Sl (eN .i64) y17.2.L), I y17.2.v_at], .dead, .dead] ?_ ?_
      · refine eo_gsplit rfl rfl (fun hb => ?_) (fun hb => ?_)
        · have h45 := cT hq43 hb
          refine go_ops hΓ 6 rfl ?_
          obtain rfl := Option.some.inj h45
          exact ⟨⟨rfl, rfl, rfl, rfl, rfl, rfl, rfl, rfl, rfl, rfl, trivial⟩, [], rfl, .inl rfl⟩
        · have h46 := cF hq43 hb
          obtain ⟨y47, hy47, h48⟩ := bi_ok h46
          refine go_ops hΓ 2 rfl ?_
          refine eo_guard rfl ?_
          refine eo_callP (callable Tryd.func28 rfl rfl) (c_slices_Equal_string_string hy47) rfl (Nat.le_of_ble_eq_true rfl) rfl rfl rfl rfl rfl ?_
          refine go_ops hΓ 3 rfl ?_
          obtain rfl := Option.some.inj h48
          exact ⟨⟨rfl, rfl, rfl, rfl, rfl, rfl, rfl, rfl, rfl, rfl, trivial⟩, [], rfl, .inl rfl⟩
      · refine go_ops hΓ 1 rfl ?_
        refine o_cut 4 [(4, .d (Sl e_api_Link y1.1)), (7, .d (Sl e_api_Probe y9.1)), (8, I y11.1), (9, S y13.1), (10, S y15.1), (11, I y17.1), (15, I y21), (103, B (q43 || ((y19.2.1 : Int) != q33.2.2)))] [.bag y19.2.2.2.1 (arX y19.2.2.2.2) [], .box 25 [.d (Sl (eN .i64) y17.2.L), I y17.2.v_at], .dead, .dead] ?_ ?_
        · refine eo_gsplit rfl rfl (fun hb => ?_) (fun hb => ?_)
          · refine go_ops hΓ 5 rfl ?_
            exact ⟨⟨rfl, rfl, rfl, rfl, rfl, rfl, rfl, get_b rfl (or_t hb), trivial⟩, [], rfl, .inl rfl⟩
          · refine go_ops hΓ 5 rfl ?_
            exact ⟨⟨rfl, rfl, rfl, rfl, rfl, rfl, rfl, get_b rfl (or_f hb), trivial⟩, [], rfl, .inl rfl⟩
        · refine go_ops hΓ 2 rfl ?_
          refine j_cond rfl (fun hb => ?_) (fun hb => ?_)
          · have h49 := cT h44 hb
            refine go hΓ 7 rfl ?_
            obtain rfl := Option.some.inj h49
            exact fin_objs hΓ [_, _, _] (.inr rfl) rfl rfl rfl rfl (.inr ⟨HB.mk rfl, rfl⟩)
          · have h50 := cF h44 hb
            obtain ⟨y51, hy51, h52⟩ := bi_ok h50
            refine go hΓ 10 rfl ?_
            refine eo_callF [0] (.tup [.d (Sl eS y51.1), I y51.2.1, I y51.2.2.1]) [.bag y51.2.2.2.1 (arX y51.2.2.2.2) [], .box 25 [.d (Sl (eN .i64) y17.2.L), I y17.2.v_at], .dead, .dead] (callable Tryd.func29 rfl rfl) (c_route_Relayed hy51) rfl (Nat.le_of_ble_eq_true rfl) rfl rfl rfl rfl rfl rfl rfl rfl rfl rfl ?_
            obtain ⟨y53, hy53, h54⟩ := bi_ok h52
            refine go_ops hΓ 12 rfl ?_
            refine eo_callP (callable Tryd.func12 rfl rfl) (c_laneref1_ProbesFault hy53) rfl (Nat.le_of_ble_eq_true rfl) rfl rfl rfl rfl rfl ?_
            obtain ⟨y55, hy55, h56⟩ := bi_ok h54
            refine go_ops hΓ 2 rfl ?_
            refine eo_callP (callable Tryd.func15 rfl rfl) (c_laneref1_GainFault hy55) rfl (Nat.le_of_ble_eq_true rfl) rfl rfl rfl rfl rfl ?_
            obtain ⟨y57, hy57, h58⟩ := bi_ok h56
            refine go_ops hΓ 1 rfl ?_
            refine eo_callP (callable Tryd.func16 rfl rfl) (c_laneref1_KeyFault hy57) rfl (Nat.le_of_ble_eq_true rfl) rfl rfl rfl rfl rfl ?_
            obtain ⟨y59, hy59, h60⟩ := bi_ok h58
            refine go_ops hΓ 1 rfl ?_
            refine eo_callP (callable Tryd.func16 rfl rfl) (c_laneref1_KeyFault hy59) rfl (Nat.le_of_ble_eq_true rfl) rfl rfl rfl rfl rfl ?_
            obtain ⟨y61, hy61, h62⟩ := bi_ok h60
            refine go_ops hΓ 3 rfl ?_
            refine eo_callP (callable Tryd.func19 rfl rfl) (c_lanelaw1_when hy61) rfl (Nat.le_of_ble_eq_true rfl) rfl rfl rfl rfl rfl ?_
            obtain ⟨y63, hy63, h64⟩ := bi_ok h62
            refine go_ops hΓ 1 rfl ?_
            refine eo_callP (callable Tryd.func17 rfl rfl) (c_laneref1_MomentFault hy63) rfl (Nat.le_of_ble_eq_true rfl) rfl rfl rfl rfl rfl ?_
            refine eo_litT hΓ (enc := (eN .i64)) [y53, y21, y55, y57, y59, y61, y63] rfl rfl rfl rfl rfl rfl rfl rfl rfl rfl rfl rfl (Nat.le_of_ble_eq_true rfl) ?_
            obtain ⟨y65, hy65, h66⟩ := bi_ok h64
            refine eo_callP (callable Tryd.func14 rfl rfl) (c_cmp_Or_api_Errno hy65) rfl (Nat.le_of_ble_eq_true rfl) rfl rfl rfl rfl rfl ?_
            refine go_ops hΓ 10 rfl ?_
            refine j_cond rfl (fun hb => ?_) (fun hb => ?_)
            · have h67 := cT h66 hb
              refine go hΓ 6 rfl ?_
              refine o_cut 4 [(13, I y51.2.1), (141, B (((y51.2.2.1 : Int) == y65) && (((y51.1.length : Int) : Int) == 0)))] [.bag y51.2.2.2.1 (arX y51.2.2.2.2) [], .box 25 [.d (Sl (eN .i64) y17.2.L), I y17.2.v_at], .dead, .dead] ?_ ?_
              · refine eo_gsplit rfl rfl (fun hb => ?_) (fun hb => ?_)
                · refine go_ops hΓ 5 rfl ?_
                  exact ⟨⟨rfl, get_b rfl (and_t hb), trivial⟩, [], rfl, .inl rfl⟩
                · refine go_ops hΓ 5 rfl ?_
                  exact ⟨⟨rfl, get_b rfl (and_f hb), trivial⟩, [], rfl, .inl rfl⟩
              · refine go_ops hΓ 1 rfl ?_
                refine o_cut 3 [(145, B ((((y51.2.2.1 : Int) == y65) && (((y51.1.length : Int) : Int) == 0)) && ((y51.2.1 : Int) == 0)))] [.bag y51.2.2.2.1 (arX y51.2.2.2.2) [], .box 25 [.d (Sl (eN .i64) y17.2.L), I y17.2.v_at], .dead, .dead] ?_ ?_
                · refine eo_gsplit rfl rfl (fun hb => ?_) (fun hb => ?_)
                  · refine go_ops hΓ 4 rfl ?_
                    exact ⟨⟨get_b rfl (and_t hb), trivial⟩, [], rfl, .inl rfl⟩
                  · refine go_ops hΓ 4 rfl ?_
                    exact ⟨⟨get_b rfl (and_f hb), trivial⟩, [], rfl, .inl rfl⟩
                · refine go_ops hΓ 1 rfl ?_
                  obtain ⟨q68, hq68, h69⟩ := bi_ok h67
                  refine o_cut 2 [(148, B q68.2)] [.bag q68.1.1 (arX q68.1.2) [], .box 25 [.d (Sl (eN .i64) y17.2.L), I y17.2.v_at], .dead, .dead] ?_ ?_
                  · refine eo_gsplit rfl rfl (fun hb => ?_) (fun hb => ?_)
                    · have h70 := cT hq68 hb
                      obtain ⟨y71, hy71, h72⟩ := bi_ok h70
                      refine eo_guard rfl ?_
                      refine eo_callF [0] (B y71.1) [.bag y71.2.1 (arX y71.2.2) [], .box 25 [.d (Sl (eN .i64) y17.2.L), I y17.2.v_at], .dead, .dead] (callable Tryd.func22 rfl rfl) (c_lanelaw1_routed hy71) rfl (Nat.le_of_ble_eq_true rfl) rfl rfl rfl rfl rfl rfl rfl rfl rfl rfl ?_
                      refine go_ops hΓ 2 rfl ?_
                      obtain rfl := Option.some.inj h72
                      exact ⟨⟨rfl, trivial⟩, [], rfl, .inl rfl⟩
                    · have h73 := cF hq68 hb
                      refine go_ops hΓ 3 rfl ?_
                      obtain rfl := Option.some.inj h73
                      exact ⟨⟨rfl, trivial⟩, [], rfl, .inl rfl⟩
                  · refine go_ops hΓ 5 rfl ?_
                    obtain rfl := Option.some.inj h69
                    exact fin_objs hΓ [_, _, _] (.inr rfl) rfl rfl rfl rfl (.inr ⟨HB.mk rfl, rfl⟩)
            · have h74 := cF h66 hb
              obtain ⟨y75, hy75, h76⟩ := bi_ok h74
              refine go hΓ 10 rfl ?_
              refine eo_callF [0] (.tup [.d (Sl eS y75.1), I y75.2.1, B y75.2.2.1]) [.bag y75.2.2.2.1 (arX y75.2.2.2.2) [], .box 25 [.d (Sl (eN .i64) y17.2.L), I y17.2.v_at], .dead, .dead] (callable Tryd.func30 rfl rfl) (c_laneref1_RelayedAt hy75) rfl (Nat.le_of_ble_eq_true rfl) rfl rfl rfl rfl rfl rfl rfl rfl rfl rfl ?_
              obtain ⟨y77, hy77, h78⟩ := bi_ok h76
              refine go_ops hΓ 14 rfl ?_
              refine eo_callP (callable Tryd.func19 rfl rfl) (c_lanelaw1_when hy77) rfl (Nat.le_of_ble_eq_true rfl) rfl rfl rfl rfl rfl ?_
              refine go_ops hΓ 2 rfl ?_
              obtain ⟨q79, hq79, h80⟩ := bi_ok h78
              refine o_cut 4 [(13, I y51.2.1), (24, I y75.2.1), (169, B q79)] [.bag y75.2.2.2.1 (arX y75.2.2.2.2) [], .box 25 [.d (Sl (eN .i64) y17.2.L), I y17.2.v_at], .dead, .dead] ?_ ?_
              · refine eo_gsplit rfl rfl (fun hb => ?_) (fun hb => ?_)
                · have h81 := cT hq79 hb
                  obtain ⟨y82, hy82, h83⟩ := bi_ok h81
                  refine go_ops hΓ 2 rfl ?_
                  refine eo_guard rfl ?_
                  refine eo_callP (callable Tryd.func28 rfl rfl) (c_slices_Equal_string_string hy82) rfl (Nat.le_of_ble_eq_true rfl) rfl rfl rfl rfl rfl ?_
                  refine go_ops hΓ 2 rfl ?_
                  obtain rfl := Option.some.inj h83
                  exact ⟨⟨rfl, rfl, rfl, trivial⟩, [], rfl, .inl rfl⟩
                · have h84 := cF hq79 hb
                  refine go_ops hΓ 5 rfl ?_
                  obtain rfl := Option.some.inj h84
                  exact ⟨⟨rfl, rfl, rfl, trivial⟩, [], rfl, .inl rfl⟩
              · refine go_ops hΓ 1 rfl ?_
                refine o_cut 4 [(174, B (q79 && ((y51.2.1 : Int) == y75.2.1)))] [.bag y75.2.2.2.1 (arX y75.2.2.2.2) [], .box 25 [.d (Sl (eN .i64) y17.2.L), I y17.2.v_at], .dead, .dead] ?_ ?_
                · refine eo_gsplit rfl rfl (fun hb => ?_) (fun hb => ?_)
                  · refine go_ops hΓ 5 rfl ?_
                    exact ⟨⟨get_b rfl (and_t hb), trivial⟩, [], rfl, .inl rfl⟩
                  · refine go_ops hΓ 5 rfl ?_
                    exact ⟨⟨get_b rfl (and_f hb), trivial⟩, [], rfl, .inl rfl⟩
                · refine go_ops hΓ 1 rfl ?_
                  obtain ⟨q85, hq85, h86⟩ := bi_ok h80
                  refine o_cut 2 [(177, B q85.2)] [.bag q85.1.1 (arX q85.1.2) [], .box 25 [.d (Sl (eN .i64) y17.2.L), I y17.2.v_at], .dead, .dead] ?_ ?_
                  · refine eo_gsplit rfl rfl (fun hb => ?_) (fun hb => ?_)
                    · have h87 := cT hq85 hb
                      obtain ⟨y88, hy88, h89⟩ := bi_ok h87
                      refine eo_guard rfl ?_
                      refine eo_callF [0] (B y88.1) [.bag y88.2.1 (arX y88.2.2) [], .box 25 [.d (Sl (eN .i64) y17.2.L), I y17.2.v_at], .dead, .dead] (callable Tryd.func22 rfl rfl) (c_lanelaw1_routed hy88) rfl (Nat.le_of_ble_eq_true rfl) rfl rfl rfl rfl rfl rfl rfl rfl rfl rfl ?_
                      refine go_ops hΓ 2 rfl ?_
                      obtain rfl := Option.some.inj h89
                      exact ⟨⟨rfl, trivial⟩, [], rfl, .inl rfl⟩
                    · have h90 := cF hq85 hb
                      refine go_ops hΓ 3 rfl ?_
                      obtain rfl := Option.some.inj h90
                      exact ⟨⟨rfl, trivial⟩, [], rfl, .inl rfl⟩
                  · refine go_ops hΓ 4 rfl ?_
                    obtain rfl := Option.some.inj h86
                    exact fin_objs hΓ [_, _, _] (.inr rfl) rfl rfl rfl rfl (.inr ⟨HB.mk rfl, rfl⟩)
end Go.Proofs.YtnjnmkpgedkffaaDoor
