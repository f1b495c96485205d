import Derived.RangeFuncNested
import Derived.RangeFuncBound
import Derived.RangeFuncCalls
import Derived.RangeFuncLeaves
import Derived.Shelf.Abstract
import Derived.WalkKit
import Derived.OwnWalkIn
import Derived.TacticsInMore
import Derived.LoopNIn
import Derived.LoopIn
import Derived.Test.YthhdojhbohfmnaaGreatDoorGt
import Derived.Test.YthhdojhbohfmnaaGreatDoorXJE
import Derived.Test.YthhdojhbohfmnaaGreatDoorGk58
/-
  Loops over slices.Backward: the iterator's contract.
-/
set_option linter.unusedVariables false
set_option linter.unusedSimpArgs false
namespace Go.Proofs.YthhdojhbohfmnaaGreatDoor
open Go.RowKit Go.Shelf Go.Gk
attribute [local go_sem] Oper.semAt_some

/-- What has come when k rounds are over, from the end on. -/
def back {α : Type} (f : Nat → α) (len k : Nat) : List α := (List.range k).map fun j => f (len - 1 - j)
theorem Kaa {α : Type} (f : Nat → α) (len k : Nat) : back f len (k + 1) = back f len k ++ [f (len - 1 - k)] := by simp [back, List.range_succ]
theorem Kab {α : Type} (f : Nat → α) (len k : Nat) : (back f len k).length = k := by simp [back]

/-- A claim lies in ten cells. -/
def LiesAt (W : World) (b off k : Nat) (c : Lcy) : Prop :=
  W.cell? ⟨b, off + k * 10, none⟩ = some (.int .i64 c.At) ∧
  W.cell? ⟨b, off + k * 10 + 1, none⟩ = some (.string ⟨c.Node.toArray⟩) ∧
  W.cell? ⟨b, off + k * 10 + 2, none⟩ = some (.string ⟨c.Name.toArray⟩) ∧
  W.cell? ⟨b, off + k * 10 + 3, none⟩ = some (.int .i64 c.Value.Kind) ∧
  W.cell? ⟨b, off + k * 10 + 4, none⟩ = some (.int .i64 c.Value.Number) ∧
  W.cell? ⟨b, off + k * 10 + 5, none⟩ = some (.string ⟨c.Value.Words.toArray⟩) ∧
  W.cell? ⟨b, off + k * 10 + 6, none⟩ = some (.int .i64 c.Value.Version.1) ∧
  W.cell? ⟨b, off + k * 10 + 7, none⟩ = some (.int .i64 c.Value.Version.2.1) ∧
  W.cell? ⟨b, off + k * 10 + 8, none⟩ = some (.int .i64 c.Value.Version.2.2.1) ∧
  W.cell? ⟨b, off + k * 10 + 9, none⟩ = some (.int .i64 c.Value.Version.2.2.2)
theorem LiesAt.below {n₀ : Nat} {W W' : World} {b off k : Nat} {c : Lcy} (h : LiesAt W b off k c) (hb : b < n₀) (hB : Below n₀ W W') : LiesAt W' b off k c := by
  obtain ⟨h0, h1, h2, h3, h4, h5, h6, h7, h8, h9⟩ := h
  refine ⟨?_, ?_, ?_, ?_, ?_, ?_, ?_, ?_, ?_, ?_⟩ <;> (rw [hB.cell hb]; assumption)
def claimV (c : Lcy) : Value := .agg #[.int .i64 c.At, .string ⟨c.Node.toArray⟩, .string ⟨c.Name.toArray⟩, .int .i64 c.Value.Kind, .int .i64 c.Value.Number, .string ⟨c.Value.Words.toArray⟩, .int .i64 c.Value.Version.1, .int .i64 c.Value.Version.2.1, .int .i64 c.Value.Version.2.2.1, .int .i64 c.Value.Version.2.2.2]
set_option maxRecDepth 100000 in
set_option maxHeartbeats 4000000 in
theorem Kac (F : Fence) (n : Nat) (h7 : F.fn 189) (hro : F.round = none) (hn : 1 ≤ n) (l Bs n₀ b off len cap : Nat) (cl : Nat → Lcy) (hlen : len ≤ 4294967296) (hb : b < n₀) (J Jx : List (Nat × Lcy) → World → Prop)
    (hY : ∀ pre x W, J pre W → pre.length < len → YieldAt F (n - 1) Tryz.prog l #[.int .i64 (x.1 : Int), claimV x.2] W fun e W' =>
      (e = .returned (.bool true) ∧ J (pre ++ [x]) W' ∧ Below n₀ W W') ∨ (e = .returned (.bool false) ∧ Jx (pre ++ [x]) W'))
    (W : World) (hcs : ∀ k, k < len → LiesAt W b off k (cl k)) (hBs : W.cell? ⟨Bs, 0, none⟩ = some (.slice (some ⟨b, off, none⟩) len cap)) (hBn : Bs < n₀) (h0 : J [] W) :
    CallsIn F n Tryz.prog 189 #[.func (.yield l) #[] #[], .pointer (some ⟨Bs, 0, none⟩)] W fun e W' => (∃ v, e = .returned v) ∧
      ((∃ ys, ys = back (fun j => (j, cl j)) len len ∧ J ys W') ∨ (∃ pre, (∃ k, k ≤ len ∧ pre = back (fun j => (j, cl j)) len k) ∧ Jx pre W')) := by
  refine callsIn_of_wp Tryz.func189 rfl h7 ?_ hro
  simp only [Tryz.ntmps189, List.size_toArray, List.length_cons, List.length_nil, Nat.reduceAdd, Nat.reduceSub, Array.replicate_succ, Array.replicate_zero, List.push_toArray, List.append_toArray, List.nil_append, List.cons_append]
  gi_wp2
  gi_loopw [3] (fun i wr => ∃ k : Nat, k ≤ len ∧ i = .int .i64 ((len : Int) - 1 - k) ∧ J (back (fun j => (j, cl j)) len k) wr ∧ Below n₀ W wr)
    (fun i _ => (intOf i + 1).toNat)
  case atStart =>
    refine ⟨0, Nat.zero_le _, ?_, h0, Below.refl _ _⟩
    simp
  case round =>
    obtain ⟨k, hk, rfl, hJs, hnx⟩ := hrel
    by_cases hlt : k < len
    · have hcell : wr.cell? ⟨Bs, 0, none⟩ = some (.slice (some ⟨b, off, none⟩) len cap) := (hnx.cell (p := ⟨Bs, 0, none⟩) hBn).trans hBs
      obtain ⟨q0, q1, q2, q3, q4, q5, q6, q7, q8, q9⟩ := (hcs (len - 1 - k) (by omega)).below hb hnx
      have hge : (0 : Int) ≤ (len : Int) - 1 - k := by omega
      have hnat : ((len : Int) - 1 - k).toNat = len - 1 - k := by omega
      have hnat2 : ((len - 1 - k : Nat) : Int) = (len : Int) - 1 - k := by omega
      obtain ⟨fn, tmps, assign, body, hy, hR⟩ := hY _ (len - 1 - k, cl (len - 1 - k)) wr hJs (by rw [Kab]; exact hlt)
      dsimp only [claimV] at hy
      rw [hnat2] at hy
      gi_wp2
      refine hR.mono ?_
      rintro e W3 (⟨rfl, hJ3, hk3⟩ | ⟨rfl, hJx3⟩)
      · gi_wp2
        go_roundw
        case rel => exact ⟨k + 1, by omega, by simp; omega, by rw [Kaa]; exact hJ3, hnx.trans hk3⟩
        case measure => simp [intOf]; omega
      · gi_wp2
        refine bodyPost_ret (results_none rfl _ _ _) rfl ?_
        exact ⟨⟨_, rfl⟩, .inr ⟨_, ⟨k + 1, by omega, (Kaa _ _ _).symm⟩, hJx3⟩⟩
    · obtain rfl : k = len := by omega
      have hneg : ¬ (0 : Int) ≤ (k : Int) - 1 - k := by omega
      gi_wp2
      go_end0
      exact ⟨⟨_, rfl⟩, .inl hJs⟩
set_option maxRecDepth 100000 in
set_option maxHeartbeats 1000000 in
/-- .. at the nil slice: no round. -/
theorem Kad (F : Fence) (n : Nat) (h7 : F.fn 189) (hro : F.round = none) (l Bs : Nat) (J : List (Nat × Lcy) → World → Prop) (W : World) (hBs : W.cell? ⟨Bs, 0, none⟩ = some (.slice none 0 0)) (h0 : J [] W) :
    CallsIn F n Tryz.prog 189 #[.func (.yield l) #[] #[], .pointer (some ⟨Bs, 0, none⟩)] W fun e W' => (∃ v, e = .returned v) ∧ J [] W' := by
  refine callsIn_of_wp Tryz.func189 rfl h7 ?_ hro
  simp only [Tryz.ntmps189, List.size_toArray, List.length_cons, List.length_nil, Nat.reduceAdd, Nat.reduceSub, Array.replicate_succ, Array.replicate_zero, List.push_toArray, List.append_toArray, List.nil_append, List.cons_append]
  gi_wp2
  gi_loopw [3] (fun i wr => i = .int .i64 (-1) ∧ J [] wr) (fun _ _ => 0)
  case atStart => exact ⟨rfl, h0⟩
  case round =>
    obtain ⟨rfl, hJs⟩ := hrel
    gi_wp2
    go_end0
    exact ⟨⟨_, rfl⟩, hJs⟩
set_option maxHeartbeats 1000000 in
/-- slices.Backward(s): the slice value is boxed; the function value captures the box. -/
theorem Kae (F : Fence) (n : Nat) (h5 : F.fn 127) (hro : F.round = none) (a : Option Addr) (len cap : Nat) (w : World) :
    CallsIn F n Tryz.prog 127 #[.slice a len cap] w fun e w' => e = .returned (.func (.func 189) #[] #[.pointer (some ⟨w.heap.size, 0, none⟩)]) ∧ w' = w.alloc (.cells #[.slice a len cap] 40) := by
  refine callsIn_of_wp Tryz.func127 rfl h5 ?_ hro
  simp only [Tryz.ntmps127, List.size_toArray, List.length_cons, List.length_nil, Nat.reduceAdd, Nat.reduceSub, Array.replicate_succ, Array.replicate_zero, List.push_toArray, List.append_toArray, List.nil_append, List.cons_append]
  gi_wp2
  go_ret
  exact ⟨rfl, rfl⟩
/-- The slice value holds the claims, in a block below n₀; or it is nil and there are none. -/
def Clms (n₀ : Nat) (W : World) (sv : Value) (cs : List Lcy) : Prop :=
  (sv = .slice none 0 0 ∧ cs = []) ∨ ∃ b off cap, sv = .slice (some ⟨b, off, none⟩) cs.length cap ∧ b < n₀ ∧ ∀ k c, cs[k]? = some c → LiesAt W b off k c
theorem Clms.below {n₀ : Nat} {A B : World} (h : Below n₀ A B) {sv : Value} {cs : List Lcy} : Clms n₀ A sv cs → Clms n₀ B sv cs
  | .inl e => .inl e
  | .inr ⟨b, off, cap, e, hb, hc⟩ => .inr ⟨b, off, cap, e, hb, fun k c hk => (hc k c hk).below hb h⟩
def clZ : Lcy := ⟨0, [], [], ⟨0, 0, [], (0, 0, 0, 0)⟩⟩
/-- The claims from the end on, with their places. -/
def backL (cs : List Lcy) (k : Nat) : List (Nat × Lcy) := back (fun j => (j, cs.getD j clZ)) cs.length k
theorem Kaf (F : Fence) (n : Nat) (h7 : F.fn 189) (hro : F.round = none) (hn : 1 ≤ n) (Bs n₀ : Nat) (sv : Value) (cs : List Lcy) (hreach : cs.length ≤ 4294967296) (w : World) (hBs : Bs < w.heap.size) (hBn : Bs < n₀) (hn₀ : n₀ ≤ w.heap.size)
    (hc : w.cell? ⟨Bs, 0, none⟩ = some sv) (hI : Clms n₀ w sv cs) :
    SeqStopsK F n Tryz.prog 189 #[.pointer (some ⟨Bs, 0, none⟩)] (fun x : Nat × Lcy => #[Value.int .i64 (x.1 : Int), claimV x.2]) (Below n₀) (fun ys => ys = backL cs cs.length)
      (fun pre => ∃ k, k ≤ cs.length ∧ pre = backL cs k) cs.length w := fun l J Jx W hW _ _ hY h0 => by
  have hc' := (hW.cell (p := ⟨Bs, 0, none⟩) hBs).trans hc
  rcases hI.below (hW.mono hn₀) with ⟨rfl, rfl⟩ | ⟨b, off, cap, rfl, hb, hcs⟩
  · exact (Kad F n h7 hro l Bs J W hc' h0).mono fun e W' ⟨he, hj⟩ => ⟨he, .inl ⟨_, rfl, hj⟩⟩
  · exact Kac F n h7 hro hn l Bs n₀ b off cs.length cap (fun j => cs.getD j clZ) hreach hb J Jx hY W (fun k hk => hcs k _ (by simp [List.getD, hk])) hc' hBn h0
end Go.Proofs.YthhdojhbohfmnaaGreatDoor
/-
  Loops over slices.Backward: what is known of an attribute.
-/
set_option linter.unusedVariables false
set_option linter.unusedSimpArgs false
namespace Go.Proofs.YthhdojhbohfmnaaGreatDoor
open Go.RowKit Go.Shelf Go.Gk
attribute [local go_sem] Oper.semAt_some
def attrCells (a : Lcv) : Array Value := #[.int .i64 a.Kind, .int .i64 a.Number, .string ⟨a.Words.toArray⟩, .int .i64 a.Version.1, .int .i64 a.Version.2.1, .int .i64 a.Version.2.2.1, .int .i64 a.Version.2.2.2]
def attZ : Lcv := ⟨0, 0, [], (0, 0, 0, 0)⟩
def clmCells (c : Lcy) : Array Value := #[.int .i64 c.At, .string ⟨c.Node.toArray⟩, .string ⟨c.Name.toArray⟩, .int .i64 c.Value.Kind, .int .i64 c.Value.Number, .string ⟨c.Value.Words.toArray⟩, .int .i64 c.Value.Version.1, .int .i64 c.Value.Version.2.1, .int .i64 c.Value.Version.2.2.1, .int .i64 c.Value.Version.2.2.2]
/-- A block of cells. -/
def Blk (W : World) (B : Nat) (t : TypeId) (cs : Array Value) : Prop := W.heap[B]? = some (.cells cs t (0, 0))
theorem Blk.lt {W : World} {B : Nat} {t : TypeId} {cs : Array Value} (h : Blk W B t cs) : B < W.heap.size := (Array.getElem?_eq_some_iff.1 h).1
theorem Blk.cell {W : World} {B : Nat} {t : TypeId} {cs : Array Value} (h : Blk W B t cs) (j : Nat) : W.cell? ⟨B, j, none⟩ = cs[j]? := by simp [World.cell?, show W.heap[B]? = _ from h]
theorem Blk.frozen {W : World} {B : Nat} {t : TypeId} {cs : Array Value} (h : Blk W B t cs) (j : Nat) : W.frozen? ⟨B, j, none⟩ = false := by simp [World.frozen?, show W.heap[B]? = _ from h]
theorem Blk.new (W : World) (t : TypeId) (cs : Array Value) : Blk (W.alloc (.cells cs t)) W.heap.size t cs := World.alloc_heap_new W _
theorem Blk.kept {W W' : World} {row : Option Nat} {B : Nat} {t : TypeId} {cs : Array Value} (h : Blk W B t cs) (hg : W.grownBy W' row) (hne : some B ≠ row) : Blk W' B t cs := (hg.block B h.lt hne).trans h
theorem Blk.alloc {W : World} {B : Nat} {t : TypeId} {cs : Array Value} (h : Blk W B t cs) (o : Obj) : Blk (W.alloc o) B t cs := h.kept (World.grownBy_alloc W o none) (by simp)
theorem Blk.own {W W' : World} {row : Option Nat} {B : Nat} {t : TypeId} {cs : Array Value} (h : Blk W B t cs) (hg : W.grownBy W' row) (hr : ∀ r, row = some r → ∃ o : Obj, W.heap[r]? = some o ∧ o.isCells = false) : Blk W' B t cs :=
  h.kept hg fun e => by
    obtain ⟨o, ho, hc⟩ := hr B e.symm
    rw [show W.heap[B]? = _ from h] at ho
    cases ho
    cases hc
theorem Blk.set {W : World} {B : Nat} {t : TypeId} {cs : Array Value} (h : Blk W B t cs) (j : Nat) (v : Value) : Blk (W.setCell ⟨B, j, none⟩ v) B t (cs.setIfInBounds j v) := by
  unfold Blk at *
  simp [World.setCell, Array.getElem?_modify, h]
theorem Blk.other {W : World} {B B' j : Nat} {t : TypeId} {cs : Array Value} (h : Blk W B t cs) (hne : B' ≠ B) (v : Value) : Blk (W.setCell ⟨B', j, none⟩ v) B t cs := by
  unfold Blk at *
  simp [World.setCell, Array.getElem?_modify, hne, h]
/-- The locals, from the block s on. -/
def KBox (s : Nat) (fresh : Int) (node name : Str) (at' : Int) (a : Lcv) (b : Bool) (W : World) : Prop :=
  Blk W s 3 #[.int .i64 fresh] ∧ Blk W (s + 1) 9 #[.string ⟨node.toArray⟩] ∧ Blk W (s + 1 + 1) 9 #[.string ⟨name.toArray⟩] ∧ Blk W (s + 1 + 1 + 1) 3 #[.int .i64 at'] ∧ Blk W (s + 1 + 1 + 1 + 1) 29 (attrCells a) ∧ Blk W (s + 1 + 1 + 1 + 1 + 1) 4 #[.bool b]
theorem KBox.own {s : Nat} {fresh : Int} {node name : Str} {at' : Int} {a : Lcv} {b : Bool} {W W' : World} {row : Option Nat} (h : KBox s fresh node name at' a b W) (hg : W.grownBy W' row) (hr : ∀ r, row = some r → ∃ o : Obj, W.heap[r]? = some o ∧ o.isCells = false) : KBox s fresh node name at' a b W' :=
  ⟨h.1.own hg hr, h.2.1.own hg hr, h.2.2.1.own hg hr, h.2.2.2.1.own hg hr, h.2.2.2.2.1.own hg hr, h.2.2.2.2.2.own hg hr⟩
theorem KBox.alloc {s : Nat} {fresh : Int} {node name : Str} {at' : Int} {a : Lcv} {b : Bool} {W : World} (h : KBox s fresh node name at' a b W) (o : Obj) : KBox s fresh node name at' a b (W.alloc o) :=
  ⟨h.1.alloc o, h.2.1.alloc o, h.2.2.1.alloc o, h.2.2.2.1.alloc o, h.2.2.2.2.1.alloc o, h.2.2.2.2.2.alloc o⟩
theorem Clms.mono {n₀ n₁ : Nat} {W : World} {sv : Value} {cs : List Lcy} (hn : n₀ ≤ n₁) : Clms n₀ W sv cs → Clms n₁ W sv cs
  | .inl e => .inl e
  | .inr ⟨b, off, cap, e, hb, hc⟩ => .inr ⟨b, off, cap, e, by omega, hc⟩
/-- Between two rounds. -/
def KI (s : Nat) (W0 : World) (fresh : Int) (node name : Str) (at' : Int) (pre : List (Nat × Lcy)) (W : World) : Prop :=
  (KBox s fresh node name at' attZ false W ∧ ∀ x ∈ pre, kHit node name at' x.2 = false) ∧ Below W0.heap.size W0 W
/-- A round has left. -/
def KIx (s : Nat) (w : World) (fresh : Int) (node name : Str) (at' : Int) (c : Code) (pre : List (Nat × Lcy)) (W : World) : Prop :=
  (∃ ini x, pre = ini ++ [x] ∧ (∀ y ∈ ini, kHit node name at' y.2 = false) ∧ kHit node name at' x.2 = true ∧
      ((c = .ret ∧ at' < wrap64 (x.2.At + fresh) ∧ KBox s fresh node name at' x.2.Value true W) ∨ (c = .exit 0 ∧ wrap64 (x.2.At + fresh) ≤ at' ∧ KBox s fresh node name at' attZ false W))) ∧ Below w.heap.size w W
theorem wi_w (x : Int) : wi x = wrap64 x := by unfold wi wrap64; exact IntKind.wrap_i64 x
theorem Kag {fresh : Int} {node name : Str} {at' : Int} : ∀ {l : List Lcy}, (∀ c ∈ l, kHit node name at' c = false) → kGo (kHit node name at') fresh at' l = (attZ, false)
  | [], _ => rfl
  | c :: r, h => by rw [kGo, h c List.mem_cons_self]; exact Kag fun x hx => h x (List.mem_cons_of_mem _ hx)
theorem Kah {fresh : Int} {node name : Str} {at' : Int} : ∀ {l : List Lcy} (c : Lcy) (r : List Lcy), (∀ c ∈ l, kHit node name at' c = false) → kHit node name at' c = true →
    kGo (kHit node name at') fresh at' (l ++ c :: r) = if at' < wrap64 (c.At + fresh) then (c.Value, true) else (attZ, false)
  | [], c, r, _, hc => by rw [List.nil_append, kGo, hc, if_pos rfl, wi_w]; rfl
  | x :: l, c, r, h, hc => by rw [List.cons_append, kGo, h x List.mem_cons_self]; exact Kah c r (fun y hy => h y (List.mem_cons_of_mem _ hy)) hc
theorem Kai (cs : List Lcy) (k : Nat) (hk : k ≤ cs.length) : (backL cs k).map (·.2) = cs.reverse.take k := by
  apply List.ext_getElem
  · simp [backL, back, hk]
  · intro i h1 h2
    have hi : i < cs.length := by simp [backL, back] at h1; omega
    simp [backL, back, hi, List.getElem?_eq_getElem (show cs.length - 1 - i < cs.length by omega)]
set_option maxRecDepth 100000 in
set_option maxHeartbeats 4000000 in
theorem Kaj (F : Fence) (n : Nat) {s D : Nat} {w W' : World} {a0 a1 a2 a3 a4 a14 a15 u : Value} {fresh : Int} {node name : Str} {at' : Int} {av : Lcv} {bv : Bool} (hb : KBox s fresh node name at' av bv W') (hK : W'.heap[D]? = some (.deferred (some []))) (hB : Below w.heap.size w W') (hD : w.heap.size ≤ D) :
    bodyPostM F n Tryz.prog Tryz.f53 (fun e W'' => e = .returned (.tuple #[.agg (attrCells av), .bool bv]) ∧ Below w.heap.size w W'') Exit.ret
      { tmps := #[a0, a1, a2, a3, a4, undef, Value.pointer (some { block := s, off := 0 }), Value.pointer (some { block := s + 1, off := 0 }), Value.pointer (some { block := s + 1 + 1, off := 0 }), Value.pointer (some { block := s + 1 + 1 + 1, off := 0 }),
          Value.pointer (some { block := s + 1 + 1 + 1 + 1, off := 0 }), Value.pointer (some { block := s + 1 + 1 + 1 + 1 + 1, off := 0 }), undef, undef, a14, a15,
          undef, undef, undef, undef, undef, undef, undef, undef, undef, undef, undef, undef, undef, undef, undef, undef, undef, undef, undef, undef, undef, undef, undef, undef, undef, undef, u], defers := [{ target := Target.collected D, args := #[] }] } W' := by
  refine ⟨by simp, .inl ⟨_, _, rfl, run_takeDeferred hK, ?_⟩⟩
  have hg := grownBy_putObj' W' D (.deferred none)
  have hb' := hb.own hg (fun r e => by cases e; exact ⟨_, hK, rfl⟩)
  have b4 := hb'.2.2.2.2.1
  have b5 := hb'.2.2.2.2.2
  have d0 := b4.cell 0
  have d1 := b4.cell 1
  have d2 := b4.cell 2
  have d3 := b4.cell 3
  have d4 := b4.cell 4
  have d5 := b4.cell 5
  have d6 := b4.cell 6
  have e0 := b5.cell 0
  simp only [attrCells, List.getElem?_toArray, List.getElem?_cons_zero, List.getElem?_cons_succ] at d0 d1 d2 d3 d4 d5 d6 e0
  refine ⟨.tuple #[.agg (attrCells av), .bool bv], ?_, rfl, hB.trans (belowK_b (w := w) (Nat.le_refl _) W' D _ _ hD hK rfl rfl)⟩
  simp [results, Tryz.f53, go_sem, d0, d1, d2, d3, d4, d5, d6, e0, attrCells]
set_option maxRecDepth 100000 in
set_option maxHeartbeats 4000000 in
theorem Kak (F : Fence) (n : Nat) (h4 : F.fn 53) (h6 : F.fn 127) (h8 : F.fn 189) (hro : F.round = none) (hn : 3 ≤ n) (a : Option Addr) (len cap : Nat) (cs : List Lcy) (fresh : Int) (node name : Str) (at' : Int) (hreach : cs.length ≤ 4294967296) (w : World) (hI : Clms w.heap.size w (.slice a len cap) cs) :
    CallsIn F n Tryz.prog 53 #[.slice a len cap, .int .i64 fresh, .string ⟨node.toArray⟩, .string ⟨name.toArray⟩, .int .i64 at'] w fun e W' => e = .returned (.tuple #[.agg (attrCells (kGo (kHit node name at') fresh at' cs.reverse).1), .bool (kGo (kHit node name at') fresh at' cs.reverse).2]) ∧ Below w.heap.size w W' := by
  have h1 : 1 ≤ n := by omega
  refine callsIn_of_wp_marks Tryz.func53 rfl h4 ?_ hro
  simp only [Tryz.ntmps53, List.size_toArray, List.length_cons, List.length_nil, Nat.reduceAdd, Nat.reduceSub, Array.replicate_succ, Array.replicate_zero, List.push_toArray, List.append_toArray, List.nil_append, List.cons_append]
  gi_wp2_with (gi_at_call 127; refine (Kae F (n - 1) h6 hro _ _ _ _).mono ?_; rintro e w' ⟨rfl, rfl⟩)
  obtain ⟨W1, hW1⟩ : ∃ W1, (w.alloc (Obj.cells #[Value.int IntKind.i64 fresh] 3)).alloc (Obj.cells #[Value.string { data := List.toArray node }] 9) = W1 := ⟨_, rfl⟩
  obtain ⟨W2, hW2⟩ : ∃ W2, (W1.alloc (Obj.cells #[Value.string { data := List.toArray name }] 9)).alloc (Obj.cells #[Value.int IntKind.i64 at'] 3) = W2 := ⟨_, rfl⟩
  obtain ⟨W3, hW3⟩ : ∃ W3, (W2.alloc (Obj.cells #[Value.int IntKind.i64 0, Value.int IntKind.i64 0, Value.string { data := #[] }, Value.int IntKind.i64 0, Value.int IntKind.i64 0, Value.int IntKind.i64 0, Value.int IntKind.i64 0] 29)).alloc (Obj.cells #[Value.bool false] 4) = W3 := ⟨_, rfl⟩
  obtain ⟨W0, hW0⟩ : ∃ W0, W3.alloc (Obj.cells #[Value.slice a len cap] 40) = W0 := ⟨_, rfl⟩
  have hs1 : W1.heap.size = w.heap.size + 1 + 1 := by rw [← hW1]; simp
  have hs2 : W2.heap.size = w.heap.size + 1 + 1 + 1 + 1 := by rw [← hW2]; simp [hs1]
  have hs3 : W3.heap.size = w.heap.size + 1 + 1 + 1 + 1 + 1 + 1 := by rw [← hW3]; simp [hs2]
  have hs0 : W0.heap.size = w.heap.size + 1 + 1 + 1 + 1 + 1 + 1 + 1 := by rw [← hW0]; simp [hs3]
  have hbox : KBox w.heap.size fresh node name at' attZ false W0 := by
    rw [← hW0]
    refine KBox.alloc ⟨?_, ?_, ?_, ?_, ?_, ?_⟩ _
    · rw [← hW3, ← hW2, ← hW1]; exact (((((Blk.new _ _ _).alloc _).alloc _).alloc _).alloc _).alloc _
    · rw [← hW3, ← hW2, ← hW1]; have := Blk.new (w.alloc (Obj.cells #[Value.int IntKind.i64 fresh] 3)) 9 #[Value.string { data := List.toArray node }]; rw [World.size_alloc] at this; exact (((this.alloc _).alloc _).alloc _).alloc _
    · rw [← hW3, ← hW2]; have := Blk.new W1 9 #[Value.string { data := List.toArray name }]; rw [hs1] at this; exact ((this.alloc _).alloc _).alloc _
    · rw [← hW3, ← hW2]; have := Blk.new (W1.alloc (Obj.cells #[Value.string { data := List.toArray name }] 9)) 3 #[Value.int IntKind.i64 at']; rw [World.size_alloc, hs1] at this; exact (this.alloc _).alloc _
    · rw [← hW3]; have := Blk.new W2 29 #[Value.int IntKind.i64 0, Value.int IntKind.i64 0, Value.string { data := #[] }, Value.int IntKind.i64 0, Value.int IntKind.i64 0, Value.int IntKind.i64 0, Value.int IntKind.i64 0]; rw [hs2] at this; exact this.alloc _
    · rw [← hW3]; have := Blk.new (W2.alloc (Obj.cells #[Value.int IntKind.i64 0, Value.int IntKind.i64 0, Value.string { data := #[] }, Value.int IntKind.i64 0, Value.int IntKind.i64 0, Value.int IntKind.i64 0, Value.int IntKind.i64 0] 29)) 4 #[Value.bool false]; rw [World.size_alloc, hs2] at this; exact this
  have hB0 : Below w.heap.size w W0 := by
    rw [← hW0, ← hW3, ← hW2, ← hW1]
    exact (((((((Below.refl _ w).alloc (Nat.le_refl _) _).alloc (by simp) _).alloc (by simp; omega) _).alloc (by simp; omega) _).alloc (by simp; omega) _).alloc (by simp; omega) _).alloc (by simp; omega) _
  have hcell : W0.cell? ⟨w.heap.size + 1 + 1 + 1 + 1 + 1 + 1, 0, none⟩ = some (.slice a len cap) := by
    have := Blk.new W3 40 #[Value.slice a len cap]
    rw [hs3, hW0] at this
    exact this.cell 0
  rw [hW1, hW2, hW3, hW0]
  have hle : w.heap.size ≤ W0.heap.size := by omega
  refine wpIn_rangeFunc_ownH hro h1 (gf := 189) (lb := #[.pointer (some ⟨w.heap.size + 1 + 1 + 1 + 1 + 1 + 1, 0, none⟩)]) rfl h8 (enters_of Tryz.func189 (by kernel_rfl) rfl)
    (Kaf F (n - 1) h8 hro (by omega) (w.heap.size + 1 + 1 + 1 + 1 + 1 + 1) W0.heap.size (.slice a len cap) cs hreach W0 (by omega) (by omega) (Nat.le_refl _) hcell ((hI.below hB0).mono hle)) belowK_t (belowK_b (Nat.le_refl _)) (Below.refl _ _) (fun _ => rfl)
    (KI w.heap.size W0 fresh node name at') (KIx w.heap.size w fresh node name at')
    (OwnFrom.and (Own.from (fun s A B row hs hg hr => ⟨hs.1.own hg hr, hs.2⟩) _) (ownFrom_below (Nat.le_refl _) (Nat.le_refl _)))
    (fun c => OwnFrom.and (Own.from (fun s A B row hs hg hr => by
      obtain ⟨ini, x, e1, e2, e3, e4⟩ := hs
      exact ⟨ini, x, e1, e2, e3, e4.imp (fun ⟨f1, f2, f3⟩ => ⟨f1, f2, f3.own hg hr⟩) (fun ⟨f1, f2, f3⟩ => ⟨f1, f2, f3.own hg hr⟩)⟩) _) (ownFrom_below (Nat.le_refl _) hle))
    ⟨⟨hbox, by simp⟩, Below.refl _ _⟩
    (fun x a' W => ∃ Bx, W0.heap.size ≤ Bx ∧ Blk W Bx 83 (clmCells x.2) ∧ a' = { tmps := #[Value.slice a len cap, Value.int IntKind.i64 fresh, Value.string { data := List.toArray node },
          Value.string { data := List.toArray name }, Value.int IntKind.i64 at', undef,
          Value.pointer (some { block := w.heap.size, off := 0 }), Value.pointer (some { block := w.heap.size + 1, off := 0 }), Value.pointer (some { block := w.heap.size + 1 + 1, off := 0 }), Value.pointer (some { block := w.heap.size + 1 + 1 + 1, off := 0 }),
          Value.pointer (some { block := w.heap.size + 1 + 1 + 1 + 1, off := 0 }), Value.pointer (some { block := w.heap.size + 1 + 1 + 1 + 1 + 1, off := 0 }), undef, Value.pointer (some { block := Bx, off := 0 }),
          Value.slice a len cap, Value.func (Fn.func 189) #[] #[Value.pointer (some { block := w.heap.size + 1 + 1 + 1 + 1 + 1 + 1, off := 0 })],
          .int .i64 (x.1 : Int), claimV x.2, undef, undef, undef, undef, undef, undef, undef, undef, undef, undef, undef, undef, undef,
          undef, undef, undef, undef, undef, undef, undef, undef, undef, undef, undef, undef], defers := [] })
    (fun x a' => Own.from (fun s A B row hs hg hr => by
      obtain ⟨Bx, e1, e2, e3⟩ := hs
      exact ⟨Bx, e1, e2.own hg hr, e3⟩) _) ?assign ?body ?done ?stop
  case assign =>
    rintro l pre x W K hKI hK
    dsimp only [claimV]
    gi_wp2
    exact hK _ _ ((KeepsOthers.alloc _ _).from _) ((Below.refl _ W).alloc hKI.2.size _) ⟨⟨hKI.1.1.alloc _, hKI.1.2⟩, hKI.2.alloc hKI.2.size _⟩ ⟨W.heap.size, hKI.2.size, Blk.new W _ _, rfl⟩
  case body =>
    rintro l pre x a' W hl ⟨r, hr⟩ ⟨⟨⟨b0, b1, b2, b3, b4, b5⟩, hpre⟩, hB⟩ ⟨Bx, hBx, bX, rfl⟩ hlt
    have hBw : Below w.heap.size w W := hB0.trans (hB.mono hle)
    have c0 := b0.cell 0
    have c1 := b1.cell 0
    have c2 := b2.cell 0
    have c3 := b3.cell 0
    have d0 := b4.cell 0
    have f0 := b4.frozen 0
    have d1 := b4.cell 1
    have f1 := b4.frozen 1
    have d2 := b4.cell 2
    have f2 := b4.frozen 2
    have d3 := b4.cell 3
    have f3 := b4.frozen 3
    have d4 := b4.cell 4
    have f4 := b4.frozen 4
    have d5 := b4.cell 5
    have f5 := b4.frozen 5
    have d6 := b4.cell 6
    have f6 := b4.frozen 6
    have e0 := b5.cell 0
    have g0 := b5.frozen 0
    have x0 := bX.cell 0
    have x1 := bX.cell 1
    have x2 := bX.cell 2
    have x3 := bX.cell 3
    have x4 := bX.cell 4
    have x5 := bX.cell 5
    have x6 := bX.cell 6
    have x7 := bX.cell 7
    have x8 := bX.cell 8
    have x9 := bX.cell 9
    simp only [clmCells, attrCells, attZ, List.getElem?_toArray, List.getElem?_cons_zero, List.getElem?_cons_succ] at c0 c1 c2 c3 d0 d1 d2 d3 d4 d5 d6 e0 x0 x1 x2 x3 x4 x5 x6 x7 x8 x9
    gi_wp2
    · have hh : kHit node name at' x.2 = true := by simp [kHit, *]
      have hfr : at' < wrap64 (x.2.At + fresh) := by assumption
      refine ⟨?_, ⟨pre, x, rfl, hpre, hh, .inl ⟨rfl, hfr, ?_, ?_, ?_, ?_, ?_, ?_⟩⟩, ?_⟩
      · exact ((((((((KeepsOthers.setCell _ _ _).trans (KeepsOthers.setCell _ _ _)).trans (KeepsOthers.setCell _ _ _)).trans (KeepsOthers.setCell _ _ _)).trans (KeepsOthers.setCell _ _ _)).trans (KeepsOthers.setCell _ _ _)).trans (KeepsOthers.setCell _ _ _)).trans (KeepsOthers.setCell _ _ _)).from _
      · exact (((((((b0.other (by omega) _).other (by omega) _).other (by omega) _).other (by omega) _).other (by omega) _).other (by omega) _).other (by omega) _).other (by omega) _
      · exact (((((((b1.other (by omega) _).other (by omega) _).other (by omega) _).other (by omega) _).other (by omega) _).other (by omega) _).other (by omega) _).other (by omega) _
      · exact (((((((b2.other (by omega) _).other (by omega) _).other (by omega) _).other (by omega) _).other (by omega) _).other (by omega) _).other (by omega) _).other (by omega) _
      · exact (((((((b3.other (by omega) _).other (by omega) _).other (by omega) _).other (by omega) _).other (by omega) _).other (by omega) _).other (by omega) _).other (by omega) _
      · exact (((((((b4.set 0 _).set 1 _).set 2 _).set 3 _).set 4 _).set 5 _).set 6 _).other (by omega) _
      · exact (((((((b5.other (by omega) _).other (by omega) _).other (by omega) _).other (by omega) _).other (by omega) _).other (by omega) _).other (by omega) _).set 0 _
      · exact (((((((hBw.setCell (p := ⟨_, _, none⟩) (by simp; omega) _).setCell (p := ⟨_, _, none⟩) (by simp; omega) _).setCell (p := ⟨_, _, none⟩) (by simp; omega) _).setCell (p := ⟨_, _, none⟩) (by simp; omega) _).setCell (p := ⟨_, _, none⟩) (by simp; omega) _).setCell (p := ⟨_, _, none⟩) (by simp; omega) _).setCell (p := ⟨_, _, none⟩) (by simp; omega) _).setCell (p := ⟨_, _, none⟩) (by simp; omega) _
    · have hh : kHit node name at' x.2 = true := by simp [kHit, *]
      have hfr : wrap64 (x.2.At + fresh) ≤ at' := by assumption
      exact ⟨KeepsFrom.refl _ _, ⟨pre, x, rfl, hpre, hh, .inr ⟨rfl, hfr, b0, b1, b2, b3, b4, b5⟩⟩, hBw⟩
    all_goals
      have hh : kHit node name at' x.2 = false := by
        simp only [kHit]
        simp [*]
        try omega
      exact ⟨KeepsFrom.refl _ _, Below.refl _ _, ⟨⟨b0, b1, b2, b3, b4, b5⟩, fun y hy => (List.mem_append.1 hy).elim (hpre y) (fun e => by rw [List.mem_singleton.1 e]; exact hh)⟩, hB⟩
  case done =>
    rintro D ys W hD rfl ⟨⟨⟨b0, b1, b2, b3, b4, b5⟩, hpre⟩, hB⟩ hK
    have hBw : Below w.heap.size w W := hB0.trans (hB.mono hle)
    have hr : kGo (kHit node name at') fresh at' cs.reverse = (attZ, false) := Kag fun c hc => by
      have hm : c ∈ (backL cs cs.length).map (·.2) := by rw [Kai cs _ (Nat.le_refl _), ← List.length_reverse, List.take_length]; exact hc
      obtain ⟨x, hx, rfl⟩ := List.mem_map.1 hm
      exact hpre x hx
    have d0 := b4.cell 0
    have f0 := b4.frozen 0
    have d1 := b4.cell 1
    have f1 := b4.frozen 1
    have d2 := b4.cell 2
    have f2 := b4.frozen 2
    have d3 := b4.cell 3
    have f3 := b4.frozen 3
    have d4 := b4.cell 4
    have f4 := b4.frozen 4
    have d5 := b4.cell 5
    have f5 := b4.frozen 5
    have d6 := b4.cell 6
    have f6 := b4.frozen 6
    have e0 := b5.cell 0
    have g0 := b5.frozen 0
    simp only [attrCells, attZ, List.getElem?_toArray, List.getElem?_cons_zero, List.getElem?_cons_succ] at d0 d1 d2 d3 d4 d5 d6 e0
    gi_wp2
    rw [hr]
    refine Kaj F n (fresh := fresh) (node := node) (name := name) (at' := at') (av := attZ) (bv := false) ⟨?_, ?_, ?_, ?_, ?_, ?_⟩ ?_ ?_ (by omega)
    · exact ((((((((b0.other (by omega) _).other (by omega) _).other (by omega) _).other (by omega) _).other (by omega) _).other (by omega) _).other (by omega) _).other (by omega) _)
    · exact ((((((((b1.other (by omega) _).other (by omega) _).other (by omega) _).other (by omega) _).other (by omega) _).other (by omega) _).other (by omega) _).other (by omega) _)
    · exact ((((((((b2.other (by omega) _).other (by omega) _).other (by omega) _).other (by omega) _).other (by omega) _).other (by omega) _).other (by omega) _).other (by omega) _)
    · exact ((((((((b3.other (by omega) _).other (by omega) _).other (by omega) _).other (by omega) _).other (by omega) _).other (by omega) _).other (by omega) _).other (by omega) _)
    · exact ((((((((b4.set 0 _).set 1 _).set 2 _).set 3 _).set 4 _).set 5 _).set 6 _).other (by omega) _)
    · exact ((((((((b5.other (by omega) _).other (by omega) _).other (by omega) _).other (by omega) _).other (by omega) _).other (by omega) _).other (by omega) _).set 0 _)
    · exact ((((((((KeepsOthers.setCell _ _ _).trans (KeepsOthers.setCell _ _ _)).trans (KeepsOthers.setCell _ _ _)).trans (KeepsOthers.setCell _ _ _)).trans (KeepsOthers.setCell _ _ _)).trans (KeepsOthers.setCell _ _ _)).trans (KeepsOthers.setCell _ _ _)).trans (KeepsOthers.setCell _ _ _)).same D _ hK rfl
    · exact ((((((((hBw.setCell (p := ⟨_, _, none⟩) (by simp; omega) _).setCell (p := ⟨_, _, none⟩) (by simp; omega) _).setCell (p := ⟨_, _, none⟩) (by simp; omega) _).setCell (p := ⟨_, _, none⟩) (by simp; omega) _).setCell (p := ⟨_, _, none⟩) (by simp; omega) _).setCell (p := ⟨_, _, none⟩) (by simp; omega) _).setCell (p := ⟨_, _, none⟩) (by simp; omega) _).setCell (p := ⟨_, _, none⟩) (by simp; omega) _)
  case stop =>
    rintro D c pre W hD ⟨k, hk, rfl⟩ ⟨⟨ini, x, e1, e2, e3, e4⟩, hB⟩ hK
    have hr : kGo (kHit node name at') fresh at' cs.reverse = if at' < wrap64 (x.2.At + fresh) then (x.2.Value, true) else (attZ, false) := by
      have hm := Kai cs k hk
      rw [e1, List.map_append] at hm
      have : cs.reverse = ini.map (·.2) ++ x.2 :: cs.reverse.drop k := by
        conv => lhs; rw [← List.take_append_drop k cs.reverse, ← hm]
        simp
      rw [this]
      exact Kah _ _ (fun c hc => by obtain ⟨y, hy, rfl⟩ := List.mem_map.1 hc; exact e2 y hy) e3
    rcases e4 with ⟨rfl, hf, b0, b1, b2, b3, b4, b5⟩ | ⟨rfl, hf, b0, b1, b2, b3, b4, b5⟩
    · rw [if_pos hf] at hr
      gi_wp2
      rw [hr]
      exact Kaj F n (fresh := fresh) (node := node) (name := name) (at' := at') ⟨b0, b1, b2, b3, b4, b5⟩ hK hB (by omega)
    · rw [if_neg (by omega)] at hr
      have d0 := b4.cell 0
      have f0 := b4.frozen 0
      have d1 := b4.cell 1
      have f1 := b4.frozen 1
      have d2 := b4.cell 2
      have f2 := b4.frozen 2
      have d3 := b4.cell 3
      have f3 := b4.frozen 3
      have d4 := b4.cell 4
      have f4 := b4.frozen 4
      have d5 := b4.cell 5
      have f5 := b4.frozen 5
      have d6 := b4.cell 6
      have f6 := b4.frozen 6
      have e0 := b5.cell 0
      have g0 := b5.frozen 0
      simp only [attrCells, attZ, List.getElem?_toArray, List.getElem?_cons_zero, List.getElem?_cons_succ] at d0 d1 d2 d3 d4 d5 d6 e0
      gi_wp2
      rw [hr]
      refine Kaj F n (fresh := fresh) (node := node) (name := name) (at' := at') (av := attZ) (bv := false) ⟨?_, ?_, ?_, ?_, ?_, ?_⟩ ?_ ?_ (by omega)
      · exact ((((((((b0.other (by omega) _).other (by omega) _).other (by omega) _).other (by omega) _).other (by omega) _).other (by omega) _).other (by omega) _).other (by omega) _)
      · exact ((((((((b1.other (by omega) _).other (by omega) _).other (by omega) _).other (by omega) _).other (by omega) _).other (by omega) _).other (by omega) _).other (by omega) _)
      · exact ((((((((b2.other (by omega) _).other (by omega) _).other (by omega) _).other (by omega) _).other (by omega) _).other (by omega) _).other (by omega) _).other (by omega) _)
      · exact ((((((((b3.other (by omega) _).other (by omega) _).other (by omega) _).other (by omega) _).other (by omega) _).other (by omega) _).other (by omega) _).other (by omega) _)
      · exact ((((((((b4.set 0 _).set 1 _).set 2 _).set 3 _).set 4 _).set 5 _).set 6 _).other (by omega) _)
      · exact ((((((((b5.other (by omega) _).other (by omega) _).other (by omega) _).other (by omega) _).other (by omega) _).other (by omega) _).other (by omega) _).set 0 _)
      · exact ((((((((KeepsOthers.setCell _ _ _).trans (KeepsOthers.setCell _ _ _)).trans (KeepsOthers.setCell _ _ _)).trans (KeepsOthers.setCell _ _ _)).trans (KeepsOthers.setCell _ _ _)).trans (KeepsOthers.setCell _ _ _)).trans (KeepsOthers.setCell _ _ _)).trans (KeepsOthers.setCell _ _ _)).same D _ hK rfl
      · exact ((((((((hB.setCell (p := ⟨_, _, none⟩) (by simp; omega) _).setCell (p := ⟨_, _, none⟩) (by simp; omega) _).setCell (p := ⟨_, _, none⟩) (by simp; omega) _).setCell (p := ⟨_, _, none⟩) (by simp; omega) _).setCell (p := ⟨_, _, none⟩) (by simp; omega) _).setCell (p := ⟨_, _, none⟩) (by simp; omega) _).setCell (p := ⟨_, _, none⟩) (by simp; omega) _).setCell (p := ⟨_, _, none⟩) (by simp; omega) _)
end Go.Proofs.YthhdojhbohfmnaaGreatDoor
/-
  Loops over slices.Backward: the contract of laneref1.KnownAt.
-/
set_option linter.unusedVariables false
set_option linter.unusedSimpArgs false
namespace Go.Proofs.YthhdojhbohfmnaaGreatDoor
open Go.RowKit Go.Shelf Go.Gk
theorem Kam (c : Lcy) : (Lcn c).length = 10 := rfl
/-- A slice of claims that is told as data holds them. -/
theorem Kan {w : World} {O : Ow} {l : List Lcy} {v : Value} (h : VD w O (Sl Lcn l) v) : ∃ a cap, v = .slice a l.length cap ∧ Clms w.heap.size w v l := by
  unfold Sl at h
  generalize hn : l.length = n at h
  generalize hx : l.flatMap Lcn = xs at h
  cases h with
  | nil =>
    obtain rfl : l = [] := List.eq_nil_of_length_eq_zero hn
    exact ⟨none, 0, rfl, .inl ⟨rfl, rfl⟩⟩
  | ro n xs b off cap us hb' hO hnc hm hc hv =>
    subst hn; subst hx
    refine ⟨_, cap, rfl, .inr ⟨b, off, cap, rfl, hb', fun k c hk => ?_⟩⟩
    have key : ∀ (j : Nat) (x : Value), (Lcn c)[j]? = some (.v x) → w.cell? ⟨b, off + (k * 10 + j), none⟩ = some x := fun j x hj => by
      have hd := Kgs (sz := 10) (fun y _ => Kam y) hk j _ hj
      have hcell := hc _ _ hd
      have hvv := hv _ _ hd
      generalize us (k * 10 + j) = u at hcell hvv
      cases hvv
      exact hcell
    refine ⟨?_, ?_, ?_, ?_, ?_, ?_, ?_, ?_, ?_, ?_⟩
    · exact key 0 _ rfl
    · rw [Nat.add_assoc]; exact key 1 _ rfl
    · rw [Nat.add_assoc]; exact key 2 _ rfl
    · rw [Nat.add_assoc]; exact key 3 _ rfl
    · rw [Nat.add_assoc]; exact key 4 _ rfl
    · rw [Nat.add_assoc]; exact key 5 _ rfl
    · rw [Nat.add_assoc]; exact key 6 _ rfl
    · rw [Nat.add_assoc]; exact key 7 _ rfl
    · rw [Nat.add_assoc]; exact key 8 _ rfl
    · rw [Nat.add_assoc]; exact key 9 _ rfl
theorem Kao {w : World} {O : Ow} {M : Mp} (a : Lcv) (b : Bool) : VR w O M (.tup [.agg [I a.Kind, I a.Number, S a.Words, I a.Version.1, I a.Version.2.1, I a.Version.2.2.1, I a.Version.2.2.2], B b]) (.tuple #[.agg (attrCells a), .bool b]) := by
  refine .tup rfl fun j g v hg hv => ?_
  match j, hg, hv with
  | 0, hg, hv =>
    cases hg; cases hv
    refine .agg rfl fun i g v hg hv => ?_
    match i, hg, hv with
    | 0, hg, hv => cases hg; cases hv; exact .d (.v _ rfl)
    | 1, hg, hv => cases hg; cases hv; exact .d (.v _ rfl)
    | 2, hg, hv => cases hg; cases hv; exact .d (.v _ rfl)
    | 3, hg, hv => cases hg; cases hv; exact .d (.v _ rfl)
    | 4, hg, hv => cases hg; cases hv; exact .d (.v _ rfl)
    | 5, hg, hv => cases hg; cases hv; exact .d (.v _ rfl)
    | 6, hg, hv => cases hg; cases hv; exact .d (.v _ rfl)
    | i + 7, hg, hv => cases hg
  | 1, hg, hv => cases hg; cases hv; exact .d (.v _ rfl)
  | j + 2, hg, hv => cases hg
theorem Kal {l : List Lcy} {fresh : Int} {node : Str} {name : Str} {v_at : Int} {r : Lcv × Bool} (h : Lgl l fresh node name v_at = some r) :
    Pure Tryz.prog 53 [.d (Sl Lcn l), I fresh, S node, S name, I v_at] (.tup [.agg [I r.1.Kind, I r.1.Number, S r.1.Words, I r.1.Version.1, I r.1.Version.2.1, I r.1.Version.2.2.1, I r.1.Version.2.2.2], B r.2]) := by
  obtain ⟨h1, h⟩ := Kia h
  have h1 := Nat.le_of_ble_eq_true h1
  cases h
  intro Z w M vs hr hsz hvs
  obtain ⟨v0, v1, v2, v3, v4, rfl⟩ : ∃ v0 v1 v2 v3 v4, vs = #[v0, v1, v2, v3, v4] := by
    obtain ⟨vs⟩ := vs
    match vs, hsz with
    | [a, b, c, d, e], _ => exact ⟨a, b, c, d, e, rfl⟩
  have g0 := hvs 0 _ _ rfl rfl
  obtain rfl := vr_v (hvs 1 _ _ rfl rfl)
  obtain rfl := vr_v (hvs 2 _ _ rfl rfl)
  obtain rfl := vr_v (hvs 3 _ _ rfl rfl)
  obtain rfl := vr_v (hvs 4 _ _ rfl rfl)
  cases g0 with
  | d g0 =>
    obtain ⟨a, cap, rfl, hI⟩ := Kan g0
    refine (callsIn_wide.1 (Kak Fence.wide 10 trivial trivial trivial rfl (by decide) a l.length cap l fresh node name v_at h1 w hI)).mono ?_
    rintro e w' ⟨rfl, hB⟩
    obtain ⟨q1, q2, q3⟩ := Koj hr hB
    exact ⟨_, _, [], M, rfl, ⟨rfl, rfl⟩, q1, Kao _ _, q2, q3⟩
end Go.Proofs.YthhdojhbohfmnaaGreatDoor
