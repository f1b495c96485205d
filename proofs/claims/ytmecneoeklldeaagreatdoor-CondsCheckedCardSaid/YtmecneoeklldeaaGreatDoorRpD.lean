/-
  strings.Replacer: what replaces bytes by strings.
-/
import Derived.Test.YtmecneoeklldeaaGreatDoorRpC
import Derived.Deep.DeepCutAuto
import Derived.Deep.LoopGhost
import Derived.Shelf.RegionOpenPlain
import Derived.Laws.Cover3
set_option linter.unusedVariables false
set_option linter.unusedSimpArgs false
set_option maxRecDepth 100000
namespace Go.Proofs.YtmecneoeklldeaaGreatDoor
open Go.RowKit
def rpC (c : UInt8) : List UInt8 := if c = 92 then [92, 92] else if c = 34 then [92, 34] else [c]
def rpS (s : List UInt8) : List UInt8 := s.flatMap rpC
def escB (c : UInt8) : Bool := c == 92 || c == 34
def nE (s : List UInt8) : Nat := s.countP escB
theorem Ksg (c : UInt8) : (rpC c).length = 1 + if escB c then 1 else 0 := by
  unfold rpC escB
  by_cases h1 : c = 92
  · subst h1; rfl
  · by_cases h2 : c = 34
    · subst h2; rfl
    · simp [h1, h2]
theorem Ksh : ∀ s : List UInt8, (rpS s).length = s.length + nE s
  | [] => rfl
  | c :: s => by
    have ih := Ksh s
    unfold rpS nE at ih ⊢
    rw [List.flatMap_cons, List.length_append, Ksg, ih, List.countP_cons, List.length_cons]
    cases escB c <;> simp <;> omega
theorem Ksi : ∀ s : List UInt8, nE s = 0 → rpS s = s
  | [], _ => rfl
  | c :: s, h => by
    unfold nE at h
    rw [List.countP_cons] at h
    cases hc : escB c with
    | true => rw [hc] at h; simp at h
    | false =>
      have ih := Ksi s (by unfold nE; rw [hc] at h; simpa using h)
      have : rpC c = [c] := by
        unfold escB at hc
        simp only [Bool.or_eq_false_iff, beq_eq_false_iff_ne] at hc
        unfold rpC
        rw [if_neg hc.1, if_neg hc.2]
      unfold rpS at ih ⊢
      rw [List.flatMap_cons, this, ih]
      rfl
theorem Ksj (s : List UInt8) : nE s ≤ s.length := List.countP_le_length
theorem Ksk (s : List UInt8) : nE s = s.count 34 + s.count 92 := by
  induction s with
  | nil => rfl
  | cons c s ih =>
    unfold nE at ih ⊢
    rw [List.countP_cons, ih, List.count_cons, List.count_cons]
    unfold escB
    by_cases h1 : c = 92
    · subst h1; simp; omega
    · by_cases h2 : c = 34
      · subst h2; simp; omega
      · simp [h1, h2]
theorem Ksl {s : List UInt8} {k : Nat} (h : k < s.length) : nE (s.take (k + 1)) = nE (s.take k) + if escB s[k] then 1 else 0 := by
  unfold nE
  rw [List.take_add_one, List.getElem?_eq_getElem h, List.countP_append]
  simp [List.countP_cons]
/-- What has been laid so far, zeros behind it. -/
def rpF (s : List UInt8) (k x : Nat) : Value := .int .u8 (((rpS (s.take k)).getD x 0).toNat : Int)
theorem Ksm {s : List UInt8} {k : Nat} (h : k < s.length) : rpS (s.take (k + 1)) = rpS (s.take k) ++ rpC s[k] := by
  unfold rpS
  rw [List.take_add_one, List.getElem?_eq_getElem h, List.flatMap_append]
  simp
theorem Ksn {s : List UInt8} {k : Nat} (h : k < s.length) (he : escB s[k] = false) (x : Nat) : (if x = (rpS (s.take k)).length then Value.int .u8 (s[k].toNat : Int) else rpF s k x) = rpF s (k + 1) x := by
  have hc : rpC s[k] = [s[k]] := by
    unfold escB at he
    simp only [Bool.or_eq_false_iff, beq_eq_false_iff_ne] at he
    unfold rpC
    rw [if_neg he.1, if_neg he.2]
  unfold rpF
  rw [Ksm h, hc]
  by_cases hx : x = (rpS (s.take k)).length
  · subst hx; simp
  · rw [if_neg hx]
    congr 3
    rcases Nat.lt_or_ge x (rpS (s.take k)).length with hl | hl
    · simp [List.getD, List.getElem?_append_left hl]
    · have h2 : ((rpS (s.take k)) ++ [s[k]]).length ≤ x := by simp; omega
      simp [List.getD, List.getElem?_eq_none hl, List.getElem?_eq_none h2]
theorem Kso {s : List UInt8} {k : Nat} (h : k < s.length) (he : escB s[k] = true) (x : Nat) : (if x = (rpS (s.take k)).length then Value.int .u8 92 else if x = (rpS (s.take k)).length + 1 then Value.int .u8 (s[k].toNat : Int) else rpF s k x) = rpF s (k + 1) x := by
  have hc : rpC s[k] = [92, s[k]] := by
    unfold rpC
    by_cases h92 : s[k] = 92
    · rw [if_pos h92, h92]
    · have h34 : s[k] = 34 := by unfold escB at he; simpa [h92] using he
      rw [if_neg h92, if_pos h34, h34]
  unfold rpF
  rw [Ksm h, hc]
  by_cases hx : x = (rpS (s.take k)).length
  · subst hx; simp
  · rw [if_neg hx]
    by_cases hx1 : x = (rpS (s.take k)).length + 1
    · subst hx1
      rw [if_pos rfl]
      simp [List.getD, List.getElem?_append_right]
    · rw [if_neg hx1]
      congr 3
      rcases Nat.lt_or_ge x (rpS (s.take k)).length with hl | hl
      · simp [List.getD, List.getElem?_append_left hl]
      · have h2 : ((rpS (s.take k)) ++ [92, s[k]]).length ≤ x := by simp; omega
        simp [List.getD, List.getElem?_eq_none hl, List.getElem?_eq_none h2]
/-- Two bytes are copied into a row. -/
theorem Ksp (W : World) (g o n dLen dCap : Nat) (f : Nat → Value) (hr : W.rowIs g 5 n f) (p c : Nat) (x y : Value) (hx : x.oneCell' = true) (hy : y.oneCell' = true) (h0 : W.cell? ⟨p, 0, none⟩ = some x) (h1 : W.cell? ⟨p, 1, none⟩ = some y) (hd : 2 ≤ dLen) (hfit : o + 2 ≤ n) :
    ∃ W', (Builtin.copy_ #[62, 62] 3 #[.slice (some ⟨g, o, none⟩) dLen dCap, .slice (some ⟨p, 0, none⟩) 2 c]).run Tryz.prog W = .ok (goInt 2) W' ∧ W'.rowIs g 5 n (fun j => if j = o then x else if j = o + 1 then y else f j) ∧ ∀ B : Nat, B ≤ g → Below B W W' := by
  obtain ⟨cur, hc, hcs, hcf⟩ := hr
  have h := run_copy_row Tryz.prog W 62 62 3 5 g o dLen dCap ⟨p, 0, none⟩ 2 c cur 5 [x, y] Tryz.underlying62 (by kernel_rfl) hc (by show 2 = min 2 dLen; omega) (fun j v hj => by
    match j, hj with
    | 0, hj => simp at hj; subst hj; exact h0
    | 1, hj => simp at hj; subst hj; exact h1) (by simp; omega) (fun v hv => by
    simp at hv
    rcases hv with rfl | rfl
    · exact hx
    · exact hy)
  have hl := setRow_heap W g cur (cur.toList.take o ++ [x, y] ++ cur.toList.drop (o + [x, y].length)).toArray 5 (0, 0) hc
  refine ⟨_, h, ⟨_, hl, (by simp <;> omega), fun j hj => ?_⟩, fun B hB => ⟨rfl, rfl, rfl, by simp [World.setRow], fun k hk => ?_⟩⟩
  · have e : cur.toList.take o ++ [x, y] ++ cur.toList.drop (o + [x, y].length) = (cur.toList.set o x).set (o + 1) y := by
      have := list_seg_step (cur.toList) o x [y] (by simp; omega)
      rw [show [x, y] = x :: [y] from rfl, show o + (x :: [y]).length = o + ([y].length + 1) from rfl, ← this]
      have hL : (cur.toList.set o x).length = cur.size := by simp
      generalize cur.toList.set o x = L at hL
      rw [List.set_eq_take_append_cons_drop, if_pos (by omega)]
      simp
    rw [e]
    simp only [List.getElem?_toArray, List.getElem?_set]
    by_cases a2 : o = j
    · subst a2
      rw [if_neg (by omega), if_pos rfl, if_pos rfl, if_pos (by simp; omega)]
    · rw [if_neg (fun e : j = o => a2 e.symm)]
      by_cases a1 : o + 1 = j
      · rw [if_pos a1, if_pos a1.symm, if_pos (by simp; omega)]
      · rw [if_neg a1, if_neg a2, if_neg (fun e => a1 e.symm), Array.getElem?_toList]; exact hcf j hj
  · unfold World.setRow
    simp only [Array.getElem?_modify]
    rw [if_neg (by omega)]
set_option maxHeartbeats 4000000 in
theorem Ksq (B T : Nat) (s : List UInt8) (hs : s.length ≤ 1099511627776) (W : World) (h : BsrAt W B T) (hB : B < W.heap.size) (hT : T < W.heap.size)
    (hC : ∀ (c : UInt8) (w : World), Calls Tryz.prog 123 #[.string ⟨s.toArray⟩, .string ⟨#[c]⟩] w fun e w' => e = .returned (.int .i64 (s.count c : Nat)) ∧ w' = w) :
    Calls Tryz.prog 279 #[.pointer (some ⟨B, 0, none⟩), .string ⟨s.toArray⟩] W fun e w' => e = .returned (.string ⟨(rpS s).toArray⟩) ∧ Below W.heap.size W w' := by
  obtain ⟨p1, c1, p2, c2, r1, r2, a1, a2, a3, a4⟩ := h
  have hneS : ∀ (a : Addr) (l c : Nat) (w : World), (binOp .neq 62 (.slice (some a) l c) (.slice none 0 0)).run Tryz.prog w = .ok (.bool true) w := fun a l c w => by have := Go.run_neq_slice_nil (P := Tryz.prog) (w := w) 62 5 (some a) l c Tryz.underlying62; exact this
  have hneN : ∀ (w : World), (binOp .neq 62 (.slice none 0 0) (.slice none 0 0)).run Tryz.prog w = .ok (.bool false) w := fun w => by have := Go.run_neq_slice_nil (P := Tryz.prog) (w := w) 62 5 none 0 0 Tryz.underlying62; exact this
  have l256 : W.cell? ⟨B, 256, none⟩ = some (.slice (some ⟨T, 0, none⟩) 2 2) := r1.cell (by decide)
  go_enter Tryz.func279, Tryz.ntmps279
  go_upto_if 26 with fail
  go_cut [5, 6] (fun s5 s6 wx => s5 = .int .i64 ((s.length + nE s : Nat) : Int) ∧ s6 = .bool (decide (0 < nE s)) ∧ Below W.heap.size W wx)
  case first =>
    go_wp2
    · have t0 : W.cell? ⟨T, 0, none⟩ = some (.string ⟨#[34]⟩) := r2.cell (by decide)
      have t1 : W.cell? ⟨T, 1, none⟩ = some (.string ⟨#[92]⟩) := r2.cell (by decide)
      have v34 : W.cell? ⟨B, 34, none⟩ = some (.slice (some ⟨p1, 0, none⟩) 2 c1) := r1.cell (by decide)
      have v92 : W.cell? ⟨B, 92, none⟩ = some (.slice (some ⟨p2, 0, none⟩) 2 c2) := r1.cell (by decide)
      have i34 : ∀ h : 0 < (⟨#[34]⟩ : ByteArray).size, ((⟨#[34]⟩ : ByteArray)[0]'h).toNat = 34 := fun _ => rfl
      have i92 : ∀ h : 0 < (⟨#[92]⟩ : ByteArray).size, ((⟨#[92]⟩ : ByteArray)[0]'h).toNat = 92 := fun _ => rfl
      have mixed : Tryz.prog.follows .mixedOrders = true := by kernel_rfl
      have n34 : s.count 34 ≤ s.length := List.count_le_length
      have n92 : s.count 92 ≤ s.length := List.count_le_length
      refine wp_loop_rounds 3 ?_
      rw [rounds_succ]
      go_wp2_with (go_at_call 123; refine (hC 34 _).mono ?_; rintro e w' ⟨rfl, rfl⟩)
      · have vd34 : w'.drew.cell? ⟨B, 34, none⟩ = some (.slice (some ⟨p1, 0, none⟩) 2 c1) := v34
        go_region_o
        go_wp2
        rw [rounds_succ]
        go_wp2_with (go_at_call 123; refine (hC 92 _).mono ?_; rintro e w' ⟨rfl, rfl⟩)
        · have vdd92 : w'.drew.drew.cell? ⟨B, 92, none⟩ = some (.slice (some ⟨p2, 0, none⟩) 2 c2) := v92
          go_region_o
          go_wp2
          rw [rounds_succ]
          go_wp2
          go_meet
          have g1 : s.count 34 ≠ 0 := by
            have q : (((s.count 34 : Nat) : Int) != 0) = true := by assumption
            simpa using q
          have g2 : s.count 92 ≠ 0 := by
            have q : (((s.count 92 : Nat) : Int) != 0) = true := by assumption
            simpa using q
          have e := Ksk s
          refine ⟨?_, ?_, ?_⟩
          · congr 1; omega
          · rw [decide_eq_true (by omega)]
          · repeat' first | exact Below.refl _ _ | apply Below.drew
        · rw [rounds_succ]
          go_wp2
          go_meet
          have g1 : s.count 34 ≠ 0 := by
            have q : (((s.count 34 : Nat) : Int) != 0) = true := by assumption
            simpa using q
          have g2 : s.count 92 = 0 := by
            have q : (((s.count 92 : Nat) : Int) != 0) = false := by assumption
            simpa using q
          have e := Ksk s
          refine ⟨?_, ?_, ?_⟩
          · congr 1; omega
          · rw [decide_eq_true (by omega)]
          · repeat' first | exact Below.refl _ _ | apply Below.drew
      · rw [rounds_succ]
        go_wp2_with (go_at_call 123; refine (hC 92 _).mono ?_; rintro e w' ⟨rfl, rfl⟩)
        · have vd92 : w'.drew.cell? ⟨B, 92, none⟩ = some (.slice (some ⟨p2, 0, none⟩) 2 c2) := v92
          go_region_o
          go_wp2
          rw [rounds_succ]
          go_wp2
          go_meet
          have g1 : s.count 34 = 0 := by
            have q : (((s.count 34 : Nat) : Int) != 0) = false := by assumption
            simpa using q
          have g2 : s.count 92 ≠ 0 := by
            have q : (((s.count 92 : Nat) : Int) != 0) = true := by assumption
            simpa using q
          have e := Ksk s
          refine ⟨?_, ?_, ?_⟩
          · congr 1; omega
          · rw [decide_eq_true (by omega)]
          · repeat' first | exact Below.refl _ _ | apply Below.drew
        · rw [rounds_succ]
          go_wp2
          go_meet
          have g1 : s.count 34 = 0 := by
            have q : (((s.count 34 : Nat) : Int) != 0) = false := by assumption
            simpa using q
          have g2 : s.count 92 = 0 := by
            have q : (((s.count 92 : Nat) : Int) != 0) = false := by assumption
            simpa using q
          have e := Ksk s
          refine ⟨?_, ?_, ?_⟩
          · congr 1; omega
          · rw [decide_eq_false (by omega)]
          · repeat' first | exact Below.refl _ _ | apply Below.drew
    · go_loop [5, 6, 10] (fun n ch i => ∃ k : Nat, k ≤ s.length ∧ i = .int .i64 k ∧ n = .int .i64 ((s.length + nE (s.take k) : Nat) : Int) ∧ ch = .bool (decide (0 < nE (s.take k)))) (fun _ _ i => s.length - (intOf i).toNat)
      case atStart => exact ⟨0, Nat.zero_le _, rfl, by simp [nE], by simp [nE]⟩
      case round =>
        obtain ⟨k, hk, rfl, rfl, rfl⟩ := hrel
        by_cases hlt : k < s.length
        · have hidx : ∀ h, (⟨s.toArray⟩ : ByteArray)[k]'h = s[k] := fun h => rfl
          have hb : s[k].toNat < 256 := s[k].toNat_lt
          have hnt := Ksl hlt
          have hnl : nE (s.take k) ≤ k := Nat.le_trans (Ksj _) (by simp; omega)
          by_cases e1 : escB s[k] = true
          · rw [e1, if_pos rfl] at hnt
            obtain ⟨p, c, hv⟩ : ∃ p c, W.cell? ⟨B, s[k].toNat, none⟩ = some (.slice (some ⟨p, 0, none⟩) 2 c) := by
              have := r1.cell (i := s[k].toNat) (by omega)
              by_cases h92 : s[k] = 92
              · rw [h92] at this ⊢; exact ⟨_, _, this⟩
              · have h34 : s[k] = 34 := by unfold escB at e1; simpa [h92] using e1
                rw [h34] at this ⊢; exact ⟨_, _, this⟩
            go_wp2
            go_round
            case rel => exact ⟨k + 1, by omega, by go_num, by rw [hnt]; go_num, by rw [hnt]; simp⟩
            case measure => simp [intOf]; omega
          · have hv : W.cell? ⟨B, s[k].toNat, none⟩ = some (.slice none 0 0) := by
              have := r1.cell (i := s[k].toNat) (by omega)
              have h92 : s[k].toNat ≠ 92 := fun h => e1 (by unfold escB; rw [show s[k] = 92 from UInt8.toNat_inj.1 h]; rfl)
              have h34 : s[k].toNat ≠ 34 := fun h => e1 (by unfold escB; rw [show s[k] = 34 from UInt8.toNat_inj.1 h]; rfl)
              have h256 : s[k].toNat ≠ 256 := by omega
              simpa [h92, h34, h256] using this
            rw [if_neg e1] at hnt
            go_wp2
            go_round
            case rel => exact ⟨k + 1, by omega, by go_num, by rw [hnt]; go_num, by rw [hnt]; rfl⟩
            case measure => simp [intOf]; omega
        · have : k = s.length := by omega
          subst this
          go_wp2
          go_meet
          exact ⟨by go_num, rfl, Below.refl _ _⟩
  case rest =>
    obtain ⟨rfl, rfl, hbel⟩ := hcut
    by_cases hz : nE s = 0
    · have hd : decide (0 < nE s) = false := decide_eq_false (by omega)
      have hnot : ∀ (x : Bool) (w : World), (Op.unary .not (.bool x)).run Tryz.prog w = .ok (.bool (!x)) w := fun _ _ => rfl
      go_wp2
      go_ret
      exact ⟨by rw [Ksi s hz]; rfl, hbel⟩
    · have hd : decide (0 < nE s) = true := decide_eq_true (by omega)
      have hnot : ∀ (x : Bool) (w : World), (Op.unary .not (.bool x)).run Tryz.prog w = .ok (.bool (!x)) w := fun _ _ => rfl
      have hmk := run_make_row' (P := Tryz.prog) 62 5 (.int .u8 0) 1 Tryz.underlying62 (by kernel_rfl) rfl .i64 .i64 (s.length + nE s) (by have := Ksj s; omega) (by have := Ksj s; omega) wc
      rw [show (((s.length + nE s : Nat)) : Int) = (s.length : Int) + (nE s : Int) by push_cast; rfl] at hmk
      have hrow := World.rowIs_made wc (.int .u8 0) (s.length + nE s) 5
      generalize hW1 : wc.alloc (.cells (madeCells #[.int .u8 0] (s.length + nE s)) 5) = W1 at hmk hrow
      have hb1 : Below W.heap.size W W1 := by subst hW1; exact hbel.alloc hbel.size _
      have hN : W.heap.size ≤ wc.heap.size := hbel.size
      go_wp2
      go_loopw [13, 14] (fun j i wr => ∃ k : Nat, k ≤ s.length ∧ i = .int .i64 k ∧ j = .int .i64 ((rpS (s.take k)).length : Nat) ∧ wr.rowIs wc.heap.size 5 (s.length + nE s) (rpF s k) ∧ Below W.heap.size W wr) (fun _ i _ => s.length - (intOf i).toNat)
      case atStart => exact ⟨0, Nat.zero_le _, rfl, rfl, hrow.congr (fun i _ => rfl), hb1⟩
      case round =>
        obtain ⟨k, hk, rfl, rfl, hrw, hbw⟩ := hrel
        by_cases hlt : k < s.length
        · have hidx : ∀ h, (⟨s.toArray⟩ : ByteArray)[k]'h = s[k] := fun h => rfl
          have hb : s[k].toNat < 256 := s[k].toNat_lt
          have hnt := Ksl hlt
          have hlen := Ksh (s.take k)
          have htk : (s.take k).length = k := by simp; omega
          have hall : nE (s.take (k + 1)) ≤ nE s := by
            unfold nE
            exact (List.take_sublist _ _).countP_le
          by_cases e1 : escB s[k] = true
          · rw [e1, if_pos rfl] at hnt
            have lt_of : ∀ (p : Nat) (v : Value), W.cell? ⟨p, 0, none⟩ = some v → p < W.heap.size := fun p v h => by
              rcases Nat.lt_or_ge p W.heap.size with h' | h'
              · exact h'
              · simp [World.cell?, Array.getElem?_eq_none h'] at h
            obtain ⟨p, c, hv, hc0, hc1⟩ : ∃ p c, wr.cell? ⟨B, s[k].toNat, none⟩ = some (.slice (some ⟨p, 0, none⟩) 2 c) ∧ wr.cell? ⟨p, 0, none⟩ = some (.int .u8 92) ∧ wr.cell? ⟨p, 1, none⟩ = some (.int .u8 (s[k].toNat : Int)) := by
              have hB' := hbw.cell (p := ⟨B, s[k].toNat, none⟩) hB
              have := r1.cell (i := s[k].toNat) (by omega)
              by_cases h92 : s[k] = 92
              · rw [h92] at this hB' ⊢
                exact ⟨p2, c2, hB'.trans this, (hbw.cell (p := ⟨p2, 0, none⟩) (lt_of p2 _ a3)).trans a3, (hbw.cell (p := ⟨p2, 1, none⟩) (lt_of p2 _ a3)).trans a4⟩
              · have h34 : s[k] = 34 := by unfold escB at e1; simpa [h92] using e1
                rw [h34] at this hB' ⊢
                exact ⟨p1, c1, hB'.trans this, (hbw.cell (p := ⟨p1, 0, none⟩) (lt_of p1 _ a1)).trans a1, (hbw.cell (p := ⟨p1, 1, none⟩) (lt_of p1 _ a1)).trans a2⟩
            have hj : (rpS (s.take k)).length + 2 ≤ s.length + nE s := by omega
            have mixed : Tryz.prog.follows .mixedOrders = true := by kernel_rfl
            obtain ⟨W', hcp, hrow', hbel'⟩ := Ksp wr.drew wc.heap.size (rpS (s.take k)).length (s.length + nE s) (s.length + nE s - (rpS (s.take k)).length) (s.length + nE s - (rpS (s.take k)).length) (rpF s k) hrw.drew p c (.int .u8 92) (.int .u8 (s[k].toNat : Int)) rfl rfl hc0 hc1 (by omega) hj
            have hvd : wr.drew.cell? ⟨B, s[k].toNat, none⟩ = some (.slice (some ⟨p, 0, none⟩) 2 c) := hv
            have hnl := Ksj s
            have hl1 : (rpS (s.take (k + 1))).length = (rpS (s.take k)).length + 2 := by rw [Ksh, Ksh, hnt]; simp; omega
            clear hlen htk hall
            go_wp2
            go_region_o
            go_wp2
            go_roundw
            case rel => exact ⟨k + 1, by omega, by go_num, by rw [hl1]; go_num, hrow'.congr (fun x _ => Kso hlt e1 x), hbw.drew.trans (hbel' _ hN)⟩
            case measure => simp [intOf]; omega
          · have e0 : escB s[k] = false := by simpa using e1
            rw [if_neg e1] at hnt
            have hj : (rpS (s.take k)).length < s.length + nE s := by omega
            have hv : wr.cell? ⟨B, s[k].toNat, none⟩ = some (.slice none 0 0) := by
              refine (hbw.cell (p := ⟨B, s[k].toNat, none⟩) hB).trans ?_
              have := r1.cell (i := s[k].toNat) (by omega)
              have h92 : s[k].toNat ≠ 92 := fun h => e1 (by unfold escB; rw [show s[k] = 92 from UInt8.toNat_inj.1 h]; rfl)
              have h34 : s[k].toNat ≠ 34 := fun h => e1 (by unfold escB; rw [show s[k] = 34 from UInt8.toNat_inj.1 h]; rfl)
              have h256 : s[k].toNat ≠ 256 := by omega
              simpa [h92, h34, h256] using this
            have hcj := hrw.cell hj
            have hfj := hrw.frozen (rpS (s.take k)).length
            have hnl := Ksj s
            have hl1 : (rpS (s.take (k + 1))).length = (rpS (s.take k)).length + 1 := by rw [Ksh, Ksh, hnt]; simp; omega
            clear hlen htk hall
            go_wp2
            go_roundw
            case rel => exact ⟨k + 1, by omega, by go_num, by rw [hl1]; go_num, (hrw.set _ _).congr (fun x _ => Ksn hlt e0 x), hbw.setCell hN _⟩
            case measure => simp [intOf]; omega
        · have hke : k = s.length := by omega
          subst hke
          have htk : s.take s.length = s := List.take_length
          have hconv := run_convert_bytes_back (P := Tryz.prog) wr 62 9 5 ⟨wc.heap.size, 0, none⟩ (s.length + nE s) (rpS s) Tryz.underlying62 Tryz.underlying5 Tryz.underlying9 (fun j hj => by
            have h1 := hrw.cell (i := j) (by rw [Ksh] at hj; exact hj)
            unfold rpF at h1
            rw [htk] at h1
            rw [Addr.add_lit, Nat.zero_add, h1]
            simp [List.getD, hj])
          rw [Ksh, show ((⟨wc.heap.size, 0, none⟩ : Addr)) = ⟨wc.heap.size, 0, none⟩ from rfl] at hconv
          clear htk
          go_wp2
          go_ret
          exact ⟨rfl, hbw⟩
end Go.Proofs.YtmecneoeklldeaaGreatDoor
