/-
  Loops over slices.Backward: the contract of posture's records.
-/
import Derived.Test.YthhdojhbohfmnaaGreatDoorBk
import Derived.BigRegionIn
set_option linter.unusedVariables false
set_option linter.unusedSimpArgs false
namespace Go.Proofs.YthhdojhbohfmnaaGreatDoor
open Go.RowKit Go.Shelf Go.Gk
attribute [local go_sem] Oper.semAt_some
def VBox (s br : Nat) (fresh : Int) (mv : Value) (at' : Int) (a : Lcv) (b : Bool) (W : World) : Prop :=
  Blk W s 145 #[.pointer (some ⟨br, 0, none⟩)] ∧ Blk W (s + 1) 3 #[.int .i64 at'] ∧ Blk W (s + 1 + 1) 29 (attrCells a) ∧ Blk W (s + 1 + 1 + 1) 4 #[.bool b] ∧ Blk W br 240 #[.int .i64 fresh, mv]
theorem VBox.own {s br : Nat} {fresh : Int} {mv : Value} {at' : Int} {a : Lcv} {b : Bool} {W W' : World} {row : Option Nat} (h : VBox s br fresh mv at' a b W) (hg : W.grownBy W' row) (hr : ∀ r, row = some r → ∃ o : Obj, W.heap[r]? = some o ∧ o.isCells = false) : VBox s br fresh mv at' a b W' :=
  ⟨h.1.own hg hr, h.2.1.own hg hr, h.2.2.1.own hg hr, h.2.2.2.1.own hg hr, h.2.2.2.2.own hg hr⟩
theorem VBox.alloc {s br : Nat} {fresh : Int} {mv : Value} {at' : Int} {a : Lcv} {b : Bool} {W : World} (h : VBox s br fresh mv at' a b W) (o : Obj) : VBox s br fresh mv at' a b (W.alloc o) :=
  ⟨h.1.alloc o, h.2.1.alloc o, h.2.2.1.alloc o, h.2.2.2.1.alloc o, h.2.2.2.2.alloc o⟩
def vHit (at' : Int) (c : Lcy) : Bool := decide (c.At ≤ at')
/-- Between two rounds. -/
def VI (s br : Nat) (W0 : World) (fresh : Int) (mv : Value) (at' : Int) (pre : List (Nat × Lcy)) (W : World) : Prop :=
  (VBox s br fresh mv at' attZ false W ∧ ∀ x ∈ pre, vHit at' x.2 = false) ∧ Below W0.heap.size W0 W
/-- A round has left. -/
def VIx (s br : Nat) (w : World) (fresh : Int) (mv : Value) (at' : Int) (c : Code) (pre : List (Nat × Lcy)) (W : World) : Prop :=
  (∃ ini x, pre = ini ++ [x] ∧ (∀ y ∈ ini, vHit at' y.2 = false) ∧ vHit at' x.2 = true ∧
      ((c = .ret ∧ at' < wrap64 (x.2.At + fresh) ∧ VBox s br fresh mv at' x.2.Value true W) ∨ (c = .exit 0 ∧ wrap64 (x.2.At + fresh) ≤ at' ∧ VBox s br fresh mv at' attZ false W))) ∧ Below w.heap.size w W
theorem Kap {hit : Lcy → Bool} {fresh : Int} {at' : Int} : ∀ {l : List Lcy}, (∀ c ∈ l, hit c = false) → kGo hit fresh at' l = (attZ, false)
  | [], _ => rfl
  | c :: r, h => by rw [kGo, h c List.mem_cons_self]; exact Kap fun x hx => h x (List.mem_cons_of_mem _ hx)
theorem Kaq {hit : Lcy → Bool} {fresh : Int} {at' : Int} : ∀ {l : List Lcy} (c : Lcy) (r : List Lcy), (∀ c ∈ l, hit c = false) → hit c = true →
    kGo hit fresh at' (l ++ c :: r) = if at' < wrap64 (c.At + fresh) then (c.Value, true) else (attZ, false)
  | [], c, r, _, hc => by rw [List.nil_append, kGo, hc, if_pos rfl, wi_w]; rfl
  | x :: l, c, r, h, hc => by rw [List.cons_append, kGo, h x List.mem_cons_self]; exact Kaq c r (fun y hy => h y (List.mem_cons_of_mem _ hy)) hc
set_option maxRecDepth 100000 in
set_option maxHeartbeats 4000000 in
theorem Kar (F : Fence) (n : Nat) {s br D : Nat} {w W' : World} {a0 a1 a2 a3 a12 a13 a14 a15 a16 a17 a18 a19 a20 u : Value} {fresh : Int} {mv : Value} {at' : Int} {av : Lcv} {bv : Bool} (hb : VBox s br fresh mv at' av bv W') (hK : W'.heap[D]? = some (.deferred (some []))) (hB : Below w.heap.size w W') (hD : w.heap.size ≤ D) :
    bodyPostM F n Tryz.prog Tryz.f120 (fun e W'' => e = .returned (.tuple #[.agg (attrCells av), .bool bv]) ∧ Below w.heap.size w W'') Exit.ret
      { tmps := #[a0, a1, a2, a3, Value.pointer (some { block := s, off := 0 }), undef, undef, Value.pointer (some { block := s + 1, off := 0 }), Value.pointer (some { block := s + 1 + 1, off := 0 }), Value.pointer (some { block := s + 1 + 1 + 1, off := 0 }), undef, undef,
          a12, a13, a14, a15, a16, a17, a18, a19, a20, undef, undef, undef, undef, undef, undef, undef, undef, undef, undef, undef, undef, undef, undef, undef, undef, undef, u], defers := [{ target := Target.collected D, args := #[] }] } W' := by
  refine ⟨by simp, .inl ⟨_, _, rfl, run_takeDeferred hK, ?_⟩⟩
  have hg := grownBy_putObj' W' D (.deferred none)
  have hb' := hb.own hg (fun r e => by cases e; exact ⟨_, hK, rfl⟩)
  have b4 := hb'.2.2.1
  have b5 := hb'.2.2.2.1
  have d0 := b4.cell 0
  have d1 := b4.cell 1
  have d2 := b4.cell 2
  have d3 := b4.cell 3
  have d4 := b4.cell 4
  have d5 := b4.cell 5
  have d6 := b4.cell 6
  have e0 := b5.cell 0
  simp only [attrCells, List.getElem?_toArray, List.getElem?_cons_zero, List.getElem?_cons_succ] at d0 d1 d2 d3 d4 d5 d6 e0
  refine ⟨.tuple #[.agg (attrCells av), .bool bv], ?_, rfl, hB.trans (belowK_b (w := w) (Nat.le_refl _) W' D _ _ hD hK rfl rfl)⟩
  simp [results, Tryz.f120, go_sem, d0, d1, d2, d3, d4, d5, d6, e0, attrCells]
set_option maxRecDepth 100000 in
theorem Blk.drewK {W : World} {b : Nat} {t : TypeId} {cs : Array Value} (h : Blk W b t cs) : Blk W.drew b t cs := h
set_option maxHeartbeats 400000000 in
theorem Kas (F : Fence) (n : Nat) (h4 : F.fn 120) (h6 : F.fn 127) (h8 : F.fn 189) (hro : F.round = none) (hn : 3 ≤ n) (br bm : Nat) (a : Option Addr) (len cap : Nat) (cs : List Lcy) (fresh : Int) (node name : Str) (at' : Int) (hreach : cs.length ≤ 4294967296) (w : World)
    (hbr : Blk w br 240 #[.int .i64 fresh, .map (some bm)]) (hbm : bm < w.heap.size)
    (hlk : ∀ W : World, W.heap[bm]? = w.heap[bm]? → (Instr.lookup 238 (.map (some bm)) (.agg #[.string ⟨node.toArray⟩, .string ⟨name.toArray⟩]) false).run Tryz.prog W = .ok (.slice a len cap) W) (hI : Clms w.heap.size w (.slice a len cap) cs) :
    CallsIn F n Tryz.prog 120 #[.pointer (some ⟨br, 0, none⟩), .string ⟨node.toArray⟩, .string ⟨name.toArray⟩, .int .i64 at'] w fun e W' => e = .returned (.tuple #[.agg (attrCells (kGo (vHit at') fresh at' cs.reverse).1), .bool (kGo (vHit at') fresh at' cs.reverse).2]) ∧ Below w.heap.size w W' := by
  have h1 : 1 ≤ n := by omega
  refine callsIn_of_wp_marks Tryz.func120 rfl h4 ?_ hro
  simp only [Tryz.ntmps120, List.size_toArray, List.length_cons, List.length_nil, Nat.reduceAdd, Nat.reduceSub, Array.replicate_succ, Array.replicate_zero, List.push_toArray, List.append_toArray, List.nil_append, List.cons_append]
  have hbl := hbr.lt
  have k0 : ∀ o1 o2 o3 o4 : Obj, ((((w.alloc o1).alloc o2).alloc o3).alloc o4).cell? ⟨br, 1, none⟩ = some (.map (some bm)) := fun o1 o2 o3 o4 => ((((hbr.alloc o1).alloc o2).alloc o3).alloc o4).cell 1
  have hkeep : ∀ o1 o2 o3 o4 : Obj, ((((w.alloc o1).alloc o2).alloc o3).alloc o4).heap[bm]? = w.heap[bm]? := fun o1 o2 o3 o4 => (((((Below.refl w.heap.size w).alloc (Nat.le_refl _) _).alloc (by simp) _).alloc (by simp; omega) _).alloc (by simp; omega) _).block bm hbm
  gi_wp2_with (gi_at_call 127; refine (Kae F (n - 1) h6 hro _ _ _ _).mono ?_; rintro e w' ⟨rfl, rfl⟩)
  obtain ⟨W2, hW2⟩ : ∃ W2, (w.alloc (Obj.cells #[Value.pointer (some { block := br, off := 0 })] 145)).alloc (Obj.cells #[Value.int IntKind.i64 at'] 3) = W2 := ⟨_, rfl⟩
  obtain ⟨W3, hW3⟩ : ∃ W3, (W2.alloc (Obj.cells #[Value.int IntKind.i64 0, Value.int IntKind.i64 0, Value.string { data := #[] }, Value.int IntKind.i64 0, Value.int IntKind.i64 0, Value.int IntKind.i64 0, Value.int IntKind.i64 0] 29)).alloc (Obj.cells #[Value.bool false] 4) = W3 := ⟨_, rfl⟩
  obtain ⟨W0, hW0⟩ : ∃ W0, W3.alloc (Obj.cells #[Value.slice a len cap] 40) = W0 := ⟨_, rfl⟩
  have hs2 : W2.heap.size = w.heap.size + 1 + 1 := by rw [← hW2]; simp
  have hs3 : W3.heap.size = w.heap.size + 1 + 1 + 1 + 1 := by rw [← hW3]; simp [hs2]
  have hs0 : W0.heap.size = w.heap.size + 1 + 1 + 1 + 1 + 1 := by rw [← hW0]; simp [hs3]
  have hbox : VBox w.heap.size br fresh (.map (some bm)) at' attZ false W0 := by
    rw [← hW0]
    refine VBox.alloc ⟨?_, ?_, ?_, ?_, ?_⟩ _
    · rw [← hW3, ← hW2]; exact (((Blk.new _ _ _).alloc _).alloc _).alloc _
    · rw [← hW3, ← hW2]; have := Blk.new (w.alloc (Obj.cells #[Value.pointer (some { block := br, off := 0 })] 145)) 3 #[Value.int IntKind.i64 at']; rw [World.size_alloc] at this; exact (this.alloc _).alloc _
    · rw [← hW3]; have := Blk.new W2 29 #[Value.int IntKind.i64 0, Value.int IntKind.i64 0, Value.string { data := #[] }, Value.int IntKind.i64 0, Value.int IntKind.i64 0, Value.int IntKind.i64 0, Value.int IntKind.i64 0]; rw [hs2] at this; exact this.alloc _
    · rw [← hW3]; have := Blk.new (W2.alloc (Obj.cells #[Value.int IntKind.i64 0, Value.int IntKind.i64 0, Value.string { data := #[] }, Value.int IntKind.i64 0, Value.int IntKind.i64 0, Value.int IntKind.i64 0, Value.int IntKind.i64 0] 29)) 4 #[Value.bool false]; rw [World.size_alloc, hs2] at this; exact this
    · rw [← hW3, ← hW2]; exact (((hbr.alloc _).alloc _).alloc _).alloc _
  have hB0 : Below w.heap.size w W0 := by
    rw [← hW0, ← hW3, ← hW2]
    exact (((((Below.refl _ w).alloc (Nat.le_refl _) _).alloc (by simp) _).alloc (by simp; omega) _).alloc (by simp; omega) _).alloc (by simp; omega) _
  have hcell : W0.cell? ⟨w.heap.size + 1 + 1 + 1 + 1, 0, none⟩ = some (.slice a len cap) := by
    have := Blk.new W3 40 #[Value.slice a len cap]
    rw [hs3, hW0] at this
    exact this.cell 0
  rw [hW2, hW3, hW0]
  have hle : w.heap.size ≤ W0.heap.size := by omega
  refine wpIn_rangeFunc_ownH hro h1 (gf := 189) (lb := #[.pointer (some ⟨w.heap.size + 1 + 1 + 1 + 1, 0, none⟩)]) rfl h8 (enters_of Tryz.func189 (by kernel_rfl) rfl)
    (Kaf F (n - 1) h8 hro (by omega) (w.heap.size + 1 + 1 + 1 + 1) W0.heap.size (.slice a len cap) cs hreach W0 (by omega) (by omega) (Nat.le_refl _) hcell ((hI.below hB0).mono hle)) belowK_t (belowK_b (Nat.le_refl _)) (Below.refl _ _) (fun _ => rfl)
    (VI w.heap.size br W0 fresh (.map (some bm)) at') (VIx w.heap.size br w fresh (.map (some bm)) at')
    (OwnFrom.and (Own.from (fun s A B row hs hg hr => ⟨hs.1.own hg hr, hs.2⟩) _) (ownFrom_below (Nat.le_refl _) (Nat.le_refl _)))
    (fun c => OwnFrom.and (Own.from (fun s A B row hs hg hr => by
      obtain ⟨ini, x, e1, e2, e3, e4⟩ := hs
      exact ⟨ini, x, e1, e2, e3, e4.imp (fun ⟨f1, f2, f3⟩ => ⟨f1, f2, f3.own hg hr⟩) (fun ⟨f1, f2, f3⟩ => ⟨f1, f2, f3.own hg hr⟩)⟩) _) (ownFrom_below (Nat.le_refl _) hle))
    ⟨⟨hbox, by simp⟩, Below.refl _ _⟩
    (fun x a' W => ∃ Bx, W0.heap.size ≤ Bx ∧ Blk W Bx 83 (clmCells x.2) ∧ a' = { tmps := #[Value.pointer (some { block := br, off := 0 }), Value.string { data := List.toArray node }, Value.string { data := List.toArray name }, Value.int IntKind.i64 at',
          Value.pointer (some { block := w.heap.size, off := 0 }), undef, undef, Value.pointer (some { block := w.heap.size + 1, off := 0 }), Value.pointer (some { block := w.heap.size + 1 + 1, off := 0 }), Value.pointer (some { block := w.heap.size + 1 + 1 + 1, off := 0 }), undef, Value.pointer (some { block := Bx, off := 0 }),
          Value.pointer (some { block := br, off := 0 }), Value.pointer (some { block := br, off := 0 }), Value.pointer (some { block := br, off := 1 }), Value.map (some bm), Value.string { data := List.toArray node }, Value.string { data := List.toArray name },
          Value.agg #[Value.string { data := List.toArray node }, Value.string { data := List.toArray name }], Value.slice a len cap, Value.func (Fn.func 189) #[] #[Value.pointer (some { block := w.heap.size + 1 + 1 + 1 + 1, off := 0 })],
          .int .i64 (x.1 : Int), claimV x.2, undef, undef, undef, undef, undef, undef, undef, undef, undef, undef, undef, undef, undef, undef, undef, undef], defers := [] })
    (fun x a' => Own.from (fun s A B row hs hg hr => by
      obtain ⟨Bx, e1, e2, e3⟩ := hs
      exact ⟨Bx, e1, e2.own hg hr, e3⟩) _) ?assign ?body ?done ?stop
  case assign =>
    rintro l pre x W K hKI hK
    dsimp only [claimV]
    gi_wp2
    exact hK _ _ ((KeepsOthers.alloc _ _).from _) ((Below.refl _ W).alloc hKI.2.size _) ⟨⟨hKI.1.1.alloc _, hKI.1.2⟩, hKI.2.alloc hKI.2.size _⟩ ⟨W.heap.size, hKI.2.size, Blk.new W _ _, rfl⟩
  case body =>
    rintro l pre x a' W hl ⟨r, hr⟩ ⟨⟨⟨b0, b1, b2, b3, b4⟩, hpre⟩, hB⟩ ⟨Bx, hBx, bX, rfl⟩ hlt
    have hBw : Below w.heap.size w W := hB0.trans (hB.mono hle)
    have c0 := b0.cell 0
    have c1 := b1.cell 0
    have c4 := b4.cell 0
    have d0 := b2.cell 0
    have f0 := b2.frozen 0
    have d1 := b2.cell 1
    have f1 := b2.frozen 1
    have d2 := b2.cell 2
    have f2 := b2.frozen 2
    have d3 := b2.cell 3
    have f3 := b2.frozen 3
    have d4 := b2.cell 4
    have f4 := b2.frozen 4
    have d5 := b2.cell 5
    have f5 := b2.frozen 5
    have d6 := b2.cell 6
    have f6 := b2.frozen 6
    have e0 := b3.cell 0
    have g0 := b3.frozen 0
    have x0 := bX.cell 0
    have x1 := bX.cell 1
    have x2 := bX.cell 2
    have x3 := bX.cell 3
    have x4 := bX.cell 4
    have x5 := bX.cell 5
    have x6 := bX.cell 6
    have x7 := bX.cell 7
    have x8 := bX.cell 8
    have x9 := bX.cell 9
    simp only [clmCells, attrCells, attZ, List.getElem?_toArray, List.getElem?_cons_zero, List.getElem?_cons_succ] at c0 c1 c4 d0 d1 d2 d3 d4 d5 d6 e0 x0 x1 x2 x3 x4 x5 x6 x7 x8 x9
    gi_wp2
    · refine wpIn_mono (Q := fun e a' W' => e = .normal ∧ a' = { tmps := #[Value.pointer (some { block := br, off := 0 }), Value.string { data := List.toArray node }, Value.string { data := List.toArray name }, Value.int IntKind.i64 at',
          Value.pointer (some { block := w.heap.size, off := 0 }), undef, undef, Value.pointer (some { block := w.heap.size + 1, off := 0 }), Value.pointer (some { block := w.heap.size + 1 + 1, off := 0 }), Value.pointer (some { block := w.heap.size + 1 + 1 + 1, off := 0 }), undef, Value.pointer (some { block := Bx, off := 0 }),
          Value.pointer (some { block := br, off := 0 }), Value.pointer (some { block := br, off := 0 }), Value.pointer (some { block := br, off := 1 }), Value.map (some bm), Value.string { data := List.toArray node }, Value.string { data := List.toArray name },
          Value.agg #[Value.string { data := List.toArray node }, Value.string { data := List.toArray name }], Value.slice a len cap, Value.func (Fn.func 189) #[] #[Value.pointer (some { block := w.heap.size + 1 + 1 + 1 + 1, off := 0 })],
          Value.int IntKind.i64 (x.1 : Int), claimV x.2, Value.pointer (some { block := Bx, off := 0 }), Value.int IntKind.i64 x.2.At, Value.int IntKind.i64 at', Value.bool true,
          Value.pointer (some { block := Bx, off := 0 }), Value.int IntKind.i64 x.2.At, Value.pointer (some { block := br, off := 0 }), Value.pointer (some { block := br, off := 0 }), Value.pointer (some { block := br, off := 0 }), Value.int IntKind.i64 fresh,
          Value.int IntKind.i64 (IntKind.i64.wrap (x.2.At + fresh)), Value.int IntKind.i64 at', Value.bool (decide (at' < IntKind.i64.wrap (x.2.At + fresh))), undef, undef, undef], defers := [] } ∧ W' = W.drew) ?_ ?_
      · gi_region
        all_goals exact ⟨rfl, rfl, rfl⟩
      · rintro _ _ _ ⟨rfl, rfl, rfl⟩
        have hh : vHit at' x.2 = true := by simp [vHit, *]
        gi_wp2
        · have hfr : at' < IntKind.i64.wrap (x.2.At + fresh) := by assumption
          have hfr : at' < wrap64 (x.2.At + fresh) := by rw [← wi_w]; exact hfr
          refine ⟨?_, ⟨pre, x, rfl, hpre, hh, .inl ⟨rfl, hfr, ?_, ?_, ?_, ?_, ?_⟩⟩, ?_⟩
          · exact (((((((((KeepsOthers.setCell _ _ _).trans (KeepsOthers.setCell _ _ _)).trans (KeepsOthers.setCell _ _ _)).trans (KeepsOthers.setCell _ _ _)).trans (KeepsOthers.setCell _ _ _)).trans (KeepsOthers.setCell _ _ _)).trans (KeepsOthers.setCell _ _ _)).trans (KeepsOthers.setCell _ _ _)).trans (KeepsOthers.drew _)).from _
          · exact Blk.drewK (((((((((b0.other (by omega) _).other (by omega) _).other (by omega) _).other (by omega) _).other (by omega) _).other (by omega) _).other (by omega) _).other (by omega) _))
          · exact Blk.drewK (((((((((b1.other (by omega) _).other (by omega) _).other (by omega) _).other (by omega) _).other (by omega) _).other (by omega) _).other (by omega) _).other (by omega) _))
          · exact Blk.drewK (((((((((b2.set 0 _).set 1 _).set 2 _).set 3 _).set 4 _).set 5 _).set 6 _).other (by omega) _))
          · exact Blk.drewK (((((((((b3.other (by omega) _).other (by omega) _).other (by omega) _).other (by omega) _).other (by omega) _).other (by omega) _).other (by omega) _).set 0 _))
          · exact Blk.drewK (((((((((b4.other (by omega) _).other (by omega) _).other (by omega) _).other (by omega) _).other (by omega) _).other (by omega) _).other (by omega) _).other (by omega) _))
          · refine Below.drew ?_
            exact ((((((((hBw.setCell (p := ⟨_, _, none⟩) (by simp; omega) _).setCell (p := ⟨_, _, none⟩) (by simp; omega) _).setCell (p := ⟨_, _, none⟩) (by simp; omega) _).setCell (p := ⟨_, _, none⟩) (by simp; omega) _).setCell (p := ⟨_, _, none⟩) (by simp; omega) _).setCell (p := ⟨_, _, none⟩) (by simp; omega) _).setCell (p := ⟨_, _, none⟩) (by simp; omega) _).setCell (p := ⟨_, _, none⟩) (by simp; omega) _)
        · have hfr : IntKind.i64.wrap (x.2.At + fresh) ≤ at' := by assumption
          have hfr : wrap64 (x.2.At + fresh) ≤ at' := by rw [← wi_w]; exact hfr
          exact ⟨(KeepsOthers.drew _).from _, ⟨pre, x, rfl, hpre, hh, .inr ⟨rfl, hfr, b0, b1, b2, b3, b4⟩⟩, hBw.drew⟩
    · have hh : vHit at' x.2 = false := by
        simp only [vHit]
        simp [*]
        try omega
      exact ⟨KeepsFrom.refl _ _, Below.refl _ _, ⟨⟨b0, b1, b2, b3, b4⟩, fun y hy => (List.mem_append.1 hy).elim (hpre y) (fun e => by rw [List.mem_singleton.1 e]; exact hh)⟩, hB⟩
  case done =>
    rintro D ys W hD rfl ⟨⟨⟨b0, b1, b2, b3, b4⟩, hpre⟩, hB⟩ hK
    have hBw : Below w.heap.size w W := hB0.trans (hB.mono hle)
    have hr : kGo (vHit at') fresh at' cs.reverse = (attZ, false) := Kap fun c hc => by
      have hm : c ∈ (backL cs cs.length).map (·.2) := by rw [Kai cs _ (Nat.le_refl _), ← List.length_reverse, List.take_length]; exact hc
      obtain ⟨x, hx, rfl⟩ := List.mem_map.1 hm
      exact hpre x hx
    have d0 := b2.cell 0
    have f0 := b2.frozen 0
    have d1 := b2.cell 1
    have f1 := b2.frozen 1
    have d2 := b2.cell 2
    have f2 := b2.frozen 2
    have d3 := b2.cell 3
    have f3 := b2.frozen 3
    have d4 := b2.cell 4
    have f4 := b2.frozen 4
    have d5 := b2.cell 5
    have f5 := b2.frozen 5
    have d6 := b2.cell 6
    have f6 := b2.frozen 6
    have e0 := b3.cell 0
    have g0 := b3.frozen 0
    simp only [attrCells, attZ, List.getElem?_toArray, List.getElem?_cons_zero, List.getElem?_cons_succ] at d0 d1 d2 d3 d4 d5 d6 e0
    gi_wp2
    rw [hr]
    refine Kar F n (fresh := fresh) (mv := .map (some bm)) (at' := at') (av := attZ) (bv := false) (br := br) ⟨?_, ?_, ?_, ?_, ?_⟩ ?_ ?_ (by omega)
    · exact ((((((((b0.other (by omega) _).other (by omega) _).other (by omega) _).other (by omega) _).other (by omega) _).other (by omega) _).other (by omega) _).other (by omega) _)
    · exact ((((((((b1.other (by omega) _).other (by omega) _).other (by omega) _).other (by omega) _).other (by omega) _).other (by omega) _).other (by omega) _).other (by omega) _)
    · exact ((((((((b2.set 0 _).set 1 _).set 2 _).set 3 _).set 4 _).set 5 _).set 6 _).other (by omega) _)
    · exact ((((((((b3.other (by omega) _).other (by omega) _).other (by omega) _).other (by omega) _).other (by omega) _).other (by omega) _).other (by omega) _).set 0 _)
    · exact ((((((((b4.other (by omega) _).other (by omega) _).other (by omega) _).other (by omega) _).other (by omega) _).other (by omega) _).other (by omega) _).other (by omega) _)
    · exact ((((((((KeepsOthers.setCell _ _ _).trans (KeepsOthers.setCell _ _ _)).trans (KeepsOthers.setCell _ _ _)).trans (KeepsOthers.setCell _ _ _)).trans (KeepsOthers.setCell _ _ _)).trans (KeepsOthers.setCell _ _ _)).trans (KeepsOthers.setCell _ _ _)).trans (KeepsOthers.setCell _ _ _)).same D _ hK rfl
    · exact ((((((((hBw.setCell (p := ⟨_, _, none⟩) (by simp; omega) _).setCell (p := ⟨_, _, none⟩) (by simp; omega) _).setCell (p := ⟨_, _, none⟩) (by simp; omega) _).setCell (p := ⟨_, _, none⟩) (by simp; omega) _).setCell (p := ⟨_, _, none⟩) (by simp; omega) _).setCell (p := ⟨_, _, none⟩) (by simp; omega) _).setCell (p := ⟨_, _, none⟩) (by simp; omega) _).setCell (p := ⟨_, _, none⟩) (by simp; omega) _)
  case stop =>
    rintro D c pre W hD ⟨k, hk, rfl⟩ ⟨⟨ini, x, e1, e2, e3, e4⟩, hB⟩ hK
    have hr : kGo (vHit at') fresh at' cs.reverse = if at' < wrap64 (x.2.At + fresh) then (x.2.Value, true) else (attZ, false) := by
      have hm := Kai cs k hk
      rw [e1, List.map_append] at hm
      have : cs.reverse = ini.map (·.2) ++ x.2 :: cs.reverse.drop k := by
        conv => lhs; rw [← List.take_append_drop k cs.reverse, ← hm]
        simp
      rw [this]
      exact Kaq _ _ (fun c hc => by obtain ⟨y, hy, rfl⟩ := List.mem_map.1 hc; exact e2 y hy) e3
    rcases e4 with ⟨rfl, hf, b0, b1, b2, b3, b4⟩ | ⟨rfl, hf, b0, b1, b2, b3, b4⟩
    · rw [if_pos hf] at hr
      gi_wp2
      rw [hr]
      exact Kar F n (fresh := fresh) (mv := .map (some bm)) (at' := at') (br := br) ⟨b0, b1, b2, b3, b4⟩ hK hB (by omega)
    · rw [if_neg (by omega)] at hr
      have d0 := b2.cell 0
      have f0 := b2.frozen 0
      have d1 := b2.cell 1
      have f1 := b2.frozen 1
      have d2 := b2.cell 2
      have f2 := b2.frozen 2
      have d3 := b2.cell 3
      have f3 := b2.frozen 3
      have d4 := b2.cell 4
      have f4 := b2.frozen 4
      have d5 := b2.cell 5
      have f5 := b2.frozen 5
      have d6 := b2.cell 6
      have f6 := b2.frozen 6
      have e0 := b3.cell 0
      have g0 := b3.frozen 0
      simp only [attrCells, attZ, List.getElem?_toArray, List.getElem?_cons_zero, List.getElem?_cons_succ] at d0 d1 d2 d3 d4 d5 d6 e0
      gi_wp2
      rw [hr]
      refine Kar F n (fresh := fresh) (mv := .map (some bm)) (at' := at') (av := attZ) (bv := false) (br := br) ⟨?_, ?_, ?_, ?_, ?_⟩ ?_ ?_ (by omega)
      · exact ((((((((b0.other (by omega) _).other (by omega) _).other (by omega) _).other (by omega) _).other (by omega) _).other (by omega) _).other (by omega) _).other (by omega) _)
      · exact ((((((((b1.other (by omega) _).other (by omega) _).other (by omega) _).other (by omega) _).other (by omega) _).other (by omega) _).other (by omega) _).other (by omega) _)
      · exact ((((((((b2.set 0 _).set 1 _).set 2 _).set 3 _).set 4 _).set 5 _).set 6 _).other (by omega) _)
      · exact ((((((((b3.other (by omega) _).other (by omega) _).other (by omega) _).other (by omega) _).other (by omega) _).other (by omega) _).other (by omega) _).set 0 _)
      · exact ((((((((b4.other (by omega) _).other (by omega) _).other (by omega) _).other (by omega) _).other (by omega) _).other (by omega) _).other (by omega) _).other (by omega) _)
      · exact ((((((((KeepsOthers.setCell _ _ _).trans (KeepsOthers.setCell _ _ _)).trans (KeepsOthers.setCell _ _ _)).trans (KeepsOthers.setCell _ _ _)).trans (KeepsOthers.setCell _ _ _)).trans (KeepsOthers.setCell _ _ _)).trans (KeepsOthers.setCell _ _ _)).trans (KeepsOthers.setCell _ _ _)).same D _ hK rfl
      · exact ((((((((hB.setCell (p := ⟨_, _, none⟩) (by simp; omega) _).setCell (p := ⟨_, _, none⟩) (by simp; omega) _).setCell (p := ⟨_, _, none⟩) (by simp; omega) _).setCell (p := ⟨_, _, none⟩) (by simp; omega) _).setCell (p := ⟨_, _, none⟩) (by simp; omega) _).setCell (p := ⟨_, _, none⟩) (by simp; omega) _).setCell (p := ⟨_, _, none⟩) (by simp; omega) _).setCell (p := ⟨_, _, none⟩) (by simp; omega) _)
end Go.Proofs.YthhdojhbohfmnaaGreatDoor
