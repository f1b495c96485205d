/-
  strings.Replacer, build: two pairs, of one byte each, into strings of two bytes.
-/
import Derived.Test.YtmecneoeklldeaaGreatDoorRpA
import Derived.Deep.OwnRows
import Derived.OwnWalk
import Derived.LoopN
import Derived.Laws.NewBlocks
import Derived.Lib.ConvBytes
import Derived.Laws.CopyRow
import Derived.Laws.AppendOwn
import Derived.Laws.IdiomStrings
set_option linter.unusedVariables false
set_option linter.unusedSimpArgs false
set_option maxRecDepth 100000
namespace Go.Proofs.YtmecneoeklldeaaGreatDoor
open Go.RowKit
/-- The four strings, as they were handed on. -/
def RpOld (w : World) (g : Nat) : Prop := w.cell? ⟨g, 0, none⟩ = some (.string ⟨#[92]⟩) ∧ w.cell? ⟨g, 1, none⟩ = some (.string ⟨#[92, 92]⟩) ∧ w.cell? ⟨g, 2, none⟩ = some (.string ⟨#[34]⟩) ∧ w.cell? ⟨g, 3, none⟩ = some (.string ⟨#[92, 34]⟩)
theorem Kry (w : World) (cur cs : Array Value) (t : TypeId) : (w.alloc (.cells cur t)).setRow w.heap.size cs = w.alloc (.cells cs t) := by
  have h := setRow_heap (w.alloc (.cells cur t)) w.heap.size cur cs t (0, 0) (by simp [World.alloc, -World.alloc_eq])
  unfold World.setRow World.alloc
  cases w with
  | mk heap tape drawn os output =>
    congr 1
    apply Array.ext
    · simp
    · intro k h1 h2
      simp only [Array.getElem_modify, Array.getElem_push]
      split
      · rename_i hk; subst hk; simp
      · rename_i hk
        simp at h2
        have hk2 : k < heap.size := by simp at h1; omega
        rw [dif_pos hk2, dif_pos hk2]
theorem Lbi : Tryz.zeroCells234.size = 257 ∧ ∀ i, i < 257 → Tryz.zeroCells234[i]? = some (.slice none 0 0) := by
  have e : Tryz.zeroCells234 = Array.replicate 257 (.slice none 0 0) := by kernel_rfl
  rw [e]
  exact ⟨by simp, fun i hi => by simp [hi]⟩
/-- The replacer's box behind its literal: nothing but the list of what is to be replaced, still empty. -/
theorem Krz (w : World) (x : Value) (hx : x.oneCell' = true) : ∃ W2 : World, (storeCells ⟨w.heap.size, 0, none⟩ (Tryz.zeroCells234.toList.set 256 x)).run Tryz.prog (w.alloc (.cells Tryz.zeroCells234 234)) = .ok () W2 ∧
    W2.rowIs w.heap.size 234 257 (fun c => if c = 256 then x else .slice none 0 0) ∧ W2.heap.size = w.heap.size + 1 ∧ Below w.heap.size w W2 := by
  obtain ⟨z1, z2⟩ := Lbi
  have hg : (w.alloc (.cells Tryz.zeroCells234 234)).heap[w.heap.size]? = some (.cells Tryz.zeroCells234 234 (0, 0)) := by simp [World.alloc, -World.alloc_eq]
  have h := run_storeCells_at Tryz.prog w.heap.size 0 234 (Tryz.zeroCells234.toList.set 256 x) 0 _ _ hg (by simp [z1]) (fun v hv => by
    rcases List.mem_or_eq_of_mem_set hv with hv | hv
    · obtain ⟨i, hi⟩ := List.getElem?_of_mem hv
      have hlt : i < 257 := by have := (List.getElem?_eq_some_iff.1 hi).1; simp [z1] at this; exact this
      have := z2 i hlt
      rw [← Array.getElem?_toList, hi] at this
      cases this; rfl
    · rw [hv]; exact hx)
  rw [Kry] at h
  have hrow : Tryz.zeroCells234.toList.take (0 + 0) ++ Tryz.zeroCells234.toList.set 256 x ++ Tryz.zeroCells234.toList.drop (0 + 0 + (Tryz.zeroCells234.toList.set 256 x).length) = Tryz.zeroCells234.toList.set 256 x := by simp
  rw [hrow] at h
  have hr := World.rowIs_alloc w (Tryz.zeroCells234.toList.set 256 x).toArray 234 (fun c => if c = 256 then x else .slice none 0 0) (fun i hi => by
    have hi' : i < 257 := by simpa [z1] using hi
    have := z2 i hi'
    rw [← Array.getElem?_toList] at this
    simp only [List.getElem?_toArray, List.getElem?_set]
    by_cases h6 : 256 = i
    · subst h6; simp [z1]
    · rw [if_neg h6, if_neg (fun e => h6 e.symm)]; exact this)
  exact ⟨_, h, by simpa [z1] using hr, by simp, (Below.refl _ _).alloc (Nat.le_refl _) _⟩
/-- One string more, where there is room. -/
theorem Ksa (W : World) (g n : Nat) (f : Nat → Value) (hr : W.rowIs g 9 2 f) (x : Value) (a : Addr) (hx : x.oneCell' = true) (ha : W.cell? a = some x) (hfs : a.spot = none) (hn : n < 2) :
    ∃ W', (Builtin.append_ #[50, 50] 50 #[.slice (some ⟨g, 0, none⟩) n 2, .slice (some a) 1 1]).run Tryz.prog W = .ok (.slice (some ⟨g, 0, none⟩) (n + 1) 2) W' ∧
      W'.rowIs g 9 2 (fun j => if j = n then x else f j) ∧ W'.heap.size = W.heap.size ∧ (∀ k, k ≠ g → W'.heap[k]? = W.heap[k]?) ∧ W'.os = W.os ∧ W'.tape = W.tape ∧ W'.output = W.output := by
  obtain ⟨i9, hi9, hz9, hs9, hb9⟩ := info_parts (show (Tryz.prog.info? 9).map (fun i => (i.zero, i.size, i.bytes)) = some (some (.string .empty), 1, 16) by kernel_rfl)
  obtain ⟨c, hc, hcs, hcf⟩ := hr
  have h := run_append_room (P := Tryz.prog) (w := W) 50 50 9 i9 Tryz.underlying50 hi9 g n 2 c hc a 1 1 [x] (by simp [hs9]) (fun j u hj => by
    match j, hj with
    | 0, hj => simp at hj; subst hj; rw [← ha]; congr 1) (fun u hu => by simp at hu; rw [hu]; exact hx) (by omega) (by simp [hs9] <;> omega)
  have hl := setRow_heap W g c (c.toList.take (n * i9.size) ++ [x] ++ c.toList.drop (n * i9.size + [x].length)).toArray 9 (0, 0) hc
  refine ⟨_, h, ⟨_, hl, (by simp [hs9, hcs] <;> omega), fun j hj => ?_⟩, by simp [World.setRow], fun k hk => ?_, rfl, rfl, rfl⟩
  · have e : c.toList.take (n * i9.size) ++ [x] ++ c.toList.drop (n * i9.size + [x].length) = c.toList.set n x := by
      rw [hs9, Nat.mul_one, List.set_eq_take_append_cons_drop, if_pos (by simp [hcs] <;> omega)]
      simp
    rw [e]
    simp only [List.getElem?_toArray, List.getElem?_set]
    by_cases hjn : n = j
    · subst hjn; simp [hcs, hn]
    · rw [if_neg hjn, if_neg (fun e => hjn e.symm), Array.getElem?_toList]; exact hcf j hj
  · unfold World.setRow
    simp only [Array.getElem?_modify]
    rw [if_neg (fun e => hk e.symm)]
/-- An append, by what it gives. -/
theorem Ksb {P : Program} {w : World} {ops : Array Oper} {rest : List Oper} {o : Oper} {a : Act} {Q : Exit → Act → World → Prop} (hgd : o.guard = none) (s x : Operand) (t : TypeId)
    (ho : o.op = .call { callee := .builtin .append, args := #[s, x], argTypes := #[t, t] }) (v vx r : Value) (w' : World) (hr : (Builtin.append_ #[t, t] o.type #[v, vx]).run P w = .ok r w') (hs : a.eval s = v) (hx : a.eval x = vx)
    (h : wpList P ops Q rest (a.put o.dst r) w') : wpList P ops Q (o :: rest) a w :=
  wpList_plain hgd fun _ hK => by
    unfold Oper.wp execOp
    simp only [ho, resolve, invoke, builtin, Sem.run_bind, Sem.run_pure, Result.andThen_ok, List.map_toArray, List.map_cons, List.map_nil, hs, hx, hr]
    exact hK _ _ h
/-- One pair is taken up: the byte's string goes to the list, the bytes that stand for it into a row of their own. -/
theorem Ksc (W : World) (T B n o : Nat) (x : UInt8) (hox : (x.toNat : Int) = o) (f fb : Nat → Value) (nw : ByteArray) (hT : W.rowIs T 9 2 f) (hB : W.rowIs B 234 257 fb) (hTB : T ≠ B) (hn : n < 2) (hnw : nw.size = 2) (ho : o < 256) :
    ∃ W3 W5 cap, (convert 62 9 (.slice (some ⟨W.heap.size, 0, none⟩) 1 1)).run Tryz.prog (W.alloc (.cells #[.int .u8 o] 5)) = .ok (.string ⟨#[x]⟩) (W.alloc (.cells #[.int .u8 o] 5)) ∧
      (Builtin.append_ #[50, 50] 50 #[.slice (some ⟨T, 0, none⟩) n 2, .slice (some ⟨W.heap.size + 1, 0, none⟩) 1 1]).run Tryz.prog ((W.alloc (.cells #[.int .u8 o] 5)).alloc (.cells #[.string ⟨#[x]⟩] 9)) = .ok (.slice (some ⟨T, 0, none⟩) (n + 1) 2) W3 ∧
      (convert 9 62 (.string nw)).run Tryz.prog (W3.setCell ⟨B, 256, none⟩ (.slice (some ⟨T, 0, none⟩) (n + 1) 2)) = .ok (.slice (some ⟨W.heap.size + 2, 0, none⟩) 2 cap) W5 ∧
      W3.cell? ⟨B, 256, none⟩ = some (fb 256) ∧ W3.frozen? ⟨B, 256, none⟩ = false ∧ (∃ u, W5.cell? ⟨B, o, none⟩ = some u) ∧ W5.frozen? ⟨B, o, none⟩ = false ∧
      (W5.setCell ⟨B, o, none⟩ (.slice (some ⟨W.heap.size + 2, 0, none⟩) 2 cap)).rowIs T 9 2 (fun j => if j = n then .string ⟨#[x]⟩ else f j) ∧
      (W5.setCell ⟨B, o, none⟩ (.slice (some ⟨W.heap.size + 2, 0, none⟩) 2 cap)).rowIs B 234 257 (fun j => if j = o then .slice (some ⟨W.heap.size + 2, 0, none⟩) 2 cap else if j = 256 then .slice (some ⟨T, 0, none⟩) (n + 1) 2 else fb j) ∧
      (∀ j, j < 2 → (W5.setCell ⟨B, o, none⟩ (.slice (some ⟨W.heap.size + 2, 0, none⟩) 2 cap)).cell? ⟨W.heap.size + 2, j, none⟩ = some (.int .u8 (nw.data.toList.getD j 0).toNat)) ∧
      (W5.setCell ⟨B, o, none⟩ (.slice (some ⟨W.heap.size + 2, 0, none⟩) 2 cap)).heap.size = W.heap.size + 3 ∧
      (∀ k, k < W.heap.size → k ≠ T → k ≠ B → (W5.setCell ⟨B, o, none⟩ (.slice (some ⟨W.heap.size + 2, 0, none⟩) 2 cap)).heap[k]? = W.heap[k]?) ∧
      (W5.setCell ⟨B, o, none⟩ (.slice (some ⟨W.heap.size + 2, 0, none⟩) 2 cap)).os = W.os ∧ (W5.setCell ⟨B, o, none⟩ (.slice (some ⟨W.heap.size + 2, 0, none⟩) 2 cap)).tape = W.tape ∧ (W5.setCell ⟨B, o, none⟩ (.slice (some ⟨W.heap.size + 2, 0, none⟩) 2 cap)).output = W.output := by
  have hBl := hB.lt
  have hTl := hT.lt
  have a1 : (W.alloc (.cells #[.int .u8 o] 5)).heap.size = W.heap.size + 1 := by simp
  have e1 := run_convert_bytes_back (P := Tryz.prog) (W.alloc (.cells #[.int .u8 o] 5)) 62 9 5 ⟨W.heap.size, 0, none⟩ 1 [x] Tryz.underlying62 Tryz.underlying5 Tryz.underlying9 (fun j hj => by
    match j, hj with
    | 0, _ => simp [Addr.add, hox])
  have hs1 : ((W.alloc (.cells #[.int .u8 o] 5)).alloc (.cells #[.string ⟨#[x]⟩] 9)).cell? ⟨W.heap.size + 1, 0, none⟩ = some (.string ⟨#[x]⟩) := by
    rw [← a1]; simp
  obtain ⟨W3, e3, r3, s3, k3, os3, tp3, ou3⟩ := Ksa _ T n f ((hT.alloc _).alloc _) (.string ⟨#[x]⟩) ⟨W.heap.size + 1, 0, none⟩ rfl hs1 rfl hn
  have rB3 : W3.rowIs B 234 257 fb := ((hB.alloc _).alloc _).of_block (k3 B (fun e => hTB e.symm))
  have sz3 : W3.heap.size = W.heap.size + 2 := by rw [s3]; simp
  have e5 := Lib.run_convert_string_bytes (P := Tryz.prog) (W3.setCell ⟨B, 256, none⟩ (.slice (some ⟨T, 0, none⟩) (n + 1) 2)) 9 62 5 nw Tryz.underlying9 Tryz.underlying62 Tryz.underlying5
  have sz4 : (W3.setCell ⟨B, 256, none⟩ (.slice (some ⟨T, 0, none⟩) (n + 1) 2)).heap.size = W.heap.size + 2 := by simp [sz3]
  have rB4 := rB3.set 256 (.slice (some ⟨T, 0, none⟩) (n + 1) 2)
  have rT4 := r3.setOther (a := ⟨B, 256, none⟩) hTB (.slice (some ⟨T, 0, none⟩) (n + 1) 2)
  have k4 : ∀ k, k ≠ T → k ≠ B → k < W.heap.size → (W3.setCell ⟨B, 256, none⟩ (.slice (some ⟨T, 0, none⟩) (n + 1) 2)).heap[k]? = W.heap[k]? := fun k h1 h2 h3 => by
    rw [Below.heap_setCell _ _ _ _ h2, k3 k h1, Below.heap_alloc _ _ _ (by rw [a1]; omega), Below.heap_alloc _ _ _ h3]
  generalize hW4 : W3.setCell ⟨B, 256, none⟩ (.slice (some ⟨T, 0, none⟩) (n + 1) 2) = W4 at e5 sz4 rB4 rT4 k4
  have o4 : W4.os = W.os ∧ W4.tape = W.tape ∧ W4.output = W.output := by subst hW4; exact ⟨os3, tp3, ou3⟩
  have old := fun j hj => Lib.bytesWorld_at_old W4 5 nw j hj
  have rB5 := rB4.of_block (old B (by rw [sz4]; omega))
  have rT5 := rT4.of_block (old T (by rw [sz4]; omega))
  have c5 := fun j hj => Lib.bytesWorld_cell W4 5 nw j hj
  have sz5 := Lib.bytesWorld_size W4 5 nw
  rw [sz4, hnw] at e5
  have o5 : (Lib.bytesWorld W4 5 nw).os = W4.os ∧ (Lib.bytesWorld W4 5 nw).tape = W4.tape ∧ (Lib.bytesWorld W4 5 nw).output = W4.output := by
    unfold Lib.bytesWorld World.freeze
    split <;> exact ⟨rfl, rfl, rfl⟩
  generalize Lib.bytesWorld W4 5 nw = W5 at *
  refine ⟨W3, W5, _, e1, e3, by rw [hW4]; exact e5, rB3.cell (by decide), rB3.frozen _, ⟨_, rB5.cell (by omega)⟩, rB5.frozen _, rT5.setOther hTB _, rB5.set o _, fun j hj => ?_, by simp [sz5, sz4], fun k h1 h2 h3 => ?_, o5.1.trans o4.1, o5.2.1.trans o4.2.1, o5.2.2.trans o4.2.2⟩
  · rw [World.cell?_setCell_other _ _ _ _ (by intro e; have := congrArg Addr.block e; simp at this; omega)]
    have := c5 j (by omega)
    rw [sz4] at this
    exact this
  · rw [Below.heap_setCell _ _ _ _ h3, old k (by rw [sz4]; omega)]
    exact k4 k h2 h3 h1
/-- What the code holds that replaces: for each byte the bytes that stand for it; the list of the bytes that are replaced. -/
def BsrAt (w : World) (B T : Nat) : Prop := ∃ p1 c1 p2 c2, w.rowIs B 234 257 (fun j => if j = 92 then .slice (some ⟨p2, 0, none⟩) 2 c2 else if j = 34 then .slice (some ⟨p1, 0, none⟩) 2 c1 else if j = 256 then .slice (some ⟨T, 0, none⟩) 2 2 else .slice none 0 0) ∧
  w.rowIs T 9 2 (fun j => if j = 0 then .string ⟨#[34]⟩ else .string ⟨#[92]⟩) ∧
  w.cell? ⟨p1, 0, none⟩ = some (.int .u8 92) ∧ w.cell? ⟨p1, 1, none⟩ = some (.int .u8 34) ∧ w.cell? ⟨p2, 0, none⟩ = some (.int .u8 92) ∧ w.cell? ⟨p2, 1, none⟩ = some (.int .u8 92)
set_option maxHeartbeats 4000000 in
theorem Ksd (b g cap : Nat) (hcap : 4 ≤ cap) (w : World) (h4 : w.cell? ⟨b, 4, none⟩ = some (.slice (some ⟨g, 0, none⟩) 4 cap)) (hg : RpOld w g) :
    Calls Tryz.prog 161 #[.pointer (some ⟨b, 0, none⟩)] w fun e w' => e = .returned (.iface 235 (.pointer (some ⟨w.heap.size + 1, 0, none⟩))) ∧ BsrAt w' (w.heap.size + 1) w.heap.size ∧ Below w.heap.size w w' := by
  obtain ⟨g0, g1, g2, g3⟩ := hg
  obtain ⟨i9, hi9, hz9, hs9, hb9⟩ := info_parts (show (Tryz.prog.info? 9).map (fun i => (i.zero, i.size, i.bytes)) = some (some (.string .empty), 1, 16) by kernel_rfl)
  have hmk : ∀ w : World, (Instr.makeSlice 50 (.int .i64 0) (.int .i64 2)).run Tryz.prog w = .ok (.slice (some ⟨w.heap.size, 0, none⟩) 0 2) (w.alloc (.cells #[.string .empty, .string .empty] 9)) := fun w => by
    have h := run_makeSlice (P := Tryz.prog) (w := w) 50 9 i9 (.string .empty) Tryz.underlying50 hi9 hz9 .i64 .i64 0 2 (by decide) (by decide) (by rw [hs9]; decide) (by rw [hb9]; decide) (by decide)
    rw [hs9] at h
    have e : madeCells (Value.string ByteArray.empty).cells ((2 : Int).toNat * 1) = #[.string .empty, .string .empty] := by first | rfl | kernel_rfl | (simp [madeCells, Value.cells]; rfl)
    rw [e] at h
    exact h
  have hgl : g < w.heap.size := by
    rcases Nat.lt_or_ge g w.heap.size with h | h
    · exact h
    · simp [World.cell?, Array.getElem?_eq_none h] at g0
  obtain ⟨W2, e2, r2, s2, b2⟩ := Krz (w.alloc (.cells #[.string .empty, .string .empty] 9)) (.slice (some ⟨w.heap.size, 0, none⟩) 0 2) rfl
  have hsz : (w.alloc (.cells #[.string .empty, .string .empty] 9)).heap.size = w.heap.size + 1 := by simp
  rw [hsz] at e2 r2 s2 b2
  have ro : ∀ (k j : Nat), k < w.heap.size → W2.cell? ⟨k, j, none⟩ = w.cell? ⟨k, j, none⟩ := fun k j ha => (b2.cell (by simp only []; omega)).trans (World.cell?_alloc_past _ _ _ ha)
  have k0 := (ro g 0 hgl).trans g0
  have k1 := (ro g 1 hgl).trans g1
  have k2 := (ro g 2 hgl).trans g2
  have k3 := (ro g 3 hgl).trans g3
  have l34 : W2.cell? ⟨w.heap.size + 1, 34, none⟩ = some (.slice none 0 0) := r2.cell (by decide)
  have l92 : W2.cell? ⟨w.heap.size + 1, 92, none⟩ = some (.slice none 0 0) := r2.cell (by decide)
  have l256 : W2.cell? ⟨w.heap.size + 1, 256, none⟩ = some (.slice (some ⟨w.heap.size, 0, none⟩) 0 2) := r2.cell (by decide)
  have lf := r2.frozen
  obtain ⟨W3, W5, c5, e31, e32, e33, x1, x2, ⟨u5, x3⟩, x4, r3T, r3B, n3, z3, o3, p31, p32, p33⟩ := Ksc W2 w.heap.size (w.heap.size + 1) 0 34 34 rfl _ _ ⟨#[92, 34]⟩ (by
    refine World.rowIs.of_block (w := w.alloc (.cells #[.string .empty, .string .empty] 9)) (f := fun _ => .string .empty) ?_ (b2.block _ (by omega))
    exact World.rowIs_alloc w #[.string .empty, .string .empty] 9 (fun _ => .string .empty) (fun i hi => by match i, hi with | 0, _ => rfl | 1, _ => rfl)) r2 (by omega) (by decide) rfl (by decide)
  rw [s2] at e31 e32 e33 r3T r3B n3 z3 o3 p31 p32 p33
  rw [show ((34 : Nat) : Int) = 34 from rfl] at e31 e32
  rw [Nat.zero_add] at e32 e33 r3B
  have hnil : ∀ w : World, (binOp .eql 62 (.slice none 0 0) (.slice none 0 0)).run Tryz.prog w = .ok (.bool true) w := fun w => by first | rfl | simp [binOp, run_underlying Tryz.underlying62]
  have h34 : ∀ h : 0 < (⟨#[34]⟩ : ByteArray).size, ((⟨#[34]⟩ : ByteArray)[0]'h).toNat = 34 := fun _ => rfl
  have h92 : ∀ h : 0 < (⟨#[92]⟩ : ByteArray).size, ((⟨#[92]⟩ : ByteArray)[0]'h).toNat = 92 := fun _ => rfl
  go_enter Tryz.func161, Tryz.ntmps161
  go_wp2
  refine wp_loop_rounds 3 ?_
  rw [rounds_succ]
  go_wp2
  rw [rounds_succ]
  go_wp2
  rw [rounds_succ]
  go_wp2
  refine wp_loop_rounds 3 ?_
  rw [rounds_succ]
  go_wp2_with (at_builtin; refine Ksb rfl _ _ _ rfl _ _ _ _ e32 rfl rfl ?_)
  rw [rounds_succ]
  generalize hW6 : W5.setCell ⟨w.heap.size + 1, 34, none⟩ (.slice (some ⟨w.heap.size + 1 + 1 + 2, 0, none⟩) 2 c5) = W6 at *
  obtain ⟨V3, V5, d5, f31, f32, f33, y1, y2, ⟨v5, y3⟩, y4, q3T, q3B, m3, zz3, oo3, pp31, pp32, pp33⟩ := Ksc W6 w.heap.size (w.heap.size + 1) 1 92 92 rfl _ _ ⟨#[92, 92]⟩ r3T r3B (by omega) (by decide) rfl (by decide)
  rw [z3] at f31 f32 f33 q3T q3B m3 zz3 oo3 pp31 pp32 pp33
  rw [show ((92 : Nat) : Int) = 92 from rfl] at f31 f32
  have kk0 := (World.cell?_of_block (a := ⟨g, 0, none⟩) (o3 g (by omega) (by omega) (by omega))).trans k0
  have kk1 := (World.cell?_of_block (a := ⟨g, 1, none⟩) (o3 g (by omega) (by omega) (by omega))).trans k1
  have ll92 : W6.cell? ⟨w.heap.size + 1, 92, none⟩ = some (.slice none 0 0) := r3B.cell (by decide)
  have ll256 : W6.cell? ⟨w.heap.size + 1, 256, none⟩ = some (.slice (some ⟨w.heap.size, 0, none⟩) 1 2) := r3B.cell (by decide)
  go_wp2_with (at_builtin; refine Ksb rfl _ _ _ rfl _ _ _ _ f32 rfl rfl ?_)
  rw [rounds_succ]
  generalize hW8 : V5.setCell ⟨w.heap.size + 1, 92, none⟩ (.slice (some ⟨w.heap.size + 1 + 1 + 3 + 2, 0, none⟩) 2 d5) = W8 at *
  go_wp2
  go_ret
  refine ⟨rfl, ⟨w.heap.size + 1 + 1 + 2, c5, w.heap.size + 1 + 1 + 3 + 2, d5, ?_, ?_, ?_, ?_, m3 0 (by decide), m3 1 (by decide)⟩, ?_⟩
  · refine q3B.congr fun j hj => ?_
    by_cases h1 : j = 92
    · simp [h1]
    · by_cases h2 : j = 256
      · simp [h2]
      · by_cases h3 : j = 34
        · simp [h3]
        · simp [h1, h2, h3]
  · refine q3T.congr fun j hj => ?_
    match j, hj with
    | 0, _ => rfl
    | 1, _ => rfl
  · exact (World.cell?_of_block (a := ⟨w.heap.size + 1 + 1 + 2, 0, none⟩) (oo3 (w.heap.size + 1 + 1 + 2) (by omega) (by omega) (by omega))).trans (n3 0 (by decide))
  · exact (World.cell?_of_block (a := ⟨w.heap.size + 1 + 1 + 2, 1, none⟩) (oo3 (w.heap.size + 1 + 1 + 2) (by omega) (by omega) (by omega))).trans (n3 1 (by decide))
  · exact ⟨pp31.trans (p31.trans b2.os), pp32.trans (p32.trans b2.tape), pp33.trans (p33.trans b2.output), by omega, fun k hk => ((oo3 k (by omega) (by omega) (by omega)).trans (o3 k (by omega) (by omega) (by omega))).trans ((b2.block k (by omega)).trans (Below.heap_alloc _ _ _ hk))⟩
end Go.Proofs.YtmecneoeklldeaaGreatDoor
