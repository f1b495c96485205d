/-
  THE GHOST LOGIC, PART 6: memory: new objects, stores, rows, elements.
-/
import Derived.Test.YtpgnhnjhpnbelaaGreatDoorGk5
set_option linter.unusedVariables false
set_option linter.unusedSimpArgs false
namespace Go.Gk

section
variable {P : Program} {Γ : TypeId → Option TI} {N : Nat} {fr : Fr} {hp : List Ob} {g : G} {Z : Env} {M : Mp} {w : World} {a : Act}

theorem getq_snoc {α : Type} {l : List α} {x y : α} {i : Nat} (h : (l ++ [x])[i]? = some y) : (i < l.length ∧ l[i]? = some y) ∨ (i = l.length ∧ x = y) := by
  by_cases hi : i < l.length
  · rw [List.getElem?_append_left hi] at h; exact .inl ⟨hi, h⟩
  · rw [List.getElem?_append_right (by omega)] at h
    have : i - l.length = 0 := by
      cases hk : i - l.length with
      | zero => rfl
      | succ k => rw [hk] at h; simp at h
    rw [this] at h
    simp at h
    exact .inr ⟨by omega, h⟩

/-- A new block, owned. -/
theorem push_ok (hr : RelH Z hp M w) (o : Ob) (cs : Array Value) (t : TypeId) (c : Nat)
    (ho : ∀ (w' : World) O', Stp w (ownZ Z hp M) w' O' → w'.heap[w.heap.size]? = some (.cells cs t (0, 0)) → ObR w' O' (M ++ [some (w.heap.size, c)]) o (some (w.heap.size, c))) :
    RelH Z (hp ++ [o]) (M ++ [some (w.heap.size, c)]) (w.alloc (.cells cs t)) ∧ Stp w (own hp M) (w.alloc (.cells cs t)) (own (hp ++ [o]) (M ++ [some (w.heap.size, c)])) ∧ Agr hp.length M (M ++ [some (w.heap.size, c)]) := by
  have hst : Stp w (own hp M) (w.alloc (.cells cs t)) (own (hp ++ [o]) (M ++ [some (w.heap.size, c)])) := by
    refine ⟨by simp, fun b hb _ => heap_alloc_old w _ hb, fun b hb => ?_, rfl, rfl, rfl⟩
    rintro ⟨i, o', c', h1, h2, h3⟩
    rcases getq_snoc h3 with ⟨hi, h4⟩ | ⟨hi, h4⟩
    · rcases getq_snoc h1 with ⟨_, h5⟩ | ⟨hi', _⟩
      · exact ⟨i, o', c', h5, h2, h4⟩
      · rw [hr.len] at hi; omega
    · cases h4; omega
  have hM : ∀ i, i < M.length → (M ++ [some (w.heap.size, c)])[i]? = M[i]? := fun i hi => List.getElem?_append_left hi
  refine ⟨⟨by simp [hr.len], fun i o' m h1 h2 => ?_, fun b hb hz => ?_, fun b hb => ?_, hr.amb_stp hst, fun i j oi oj b c1 c2 hi hj li lj mi mj => ?_⟩, hst, ⟨by simp [hr.len], fun i hi => hM i (by rw [hr.len]; exact hi)⟩⟩
  · rcases getq_snoc h1 with ⟨hi, h3⟩ | ⟨hi, rfl⟩
    · have hi' : i < M.length := by rw [hr.len]; exact hi
      rw [hM i hi'] at h2
      have := hr.obj i o' m h3 h2
      refine this.move (k := M.length) (stp_z Z hst) hM this.bel fun b c' e hl => ?_
      subst e
      exact heap_alloc_old w _ (hr.block_lt ⟨i, o', c', h3, hl, h2⟩)
    · subst hi
      rw [← hr.len] at h2
      have : m = some (w.heap.size, c) := by
        rcases getq_snoc h2 with ⟨hi, _⟩ | ⟨_, h⟩
        · omega
        · exact h.symm
      subst this
      exact ho _ _ (stp_z Z hst) (heap_alloc_new w _)
  · by_cases hb' : b < w.heap.size
    · exact hr.apart b (hst.own b hb' hb) hz
    · exact absurd (hr.old b hz) hb'
  · have := hr.old b hb; simp; omega
  · rcases getq_snoc hi with ⟨hi1, hi2⟩ | ⟨hi1, hi2⟩
    · rcases getq_snoc hj with ⟨hj1, hj2⟩ | ⟨hj1, hj2⟩
      · rw [hM i (by rw [hr.len]; exact hi1)] at mi
        rw [hM j (by rw [hr.len]; exact hj1)] at mj
        exact hr.inj i j oi oj b c1 c2 hi2 hj2 li lj mi mj
      · exfalso
        rw [hM i (by rw [hr.len]; exact hi1)] at mi
        rcases getq_snoc mj with ⟨h, _⟩ | ⟨_, h⟩
        · rw [hr.len] at h; omega
        · cases h
          have := hr.block_lt ⟨i, oi, c1, hi2, li, mi⟩
          omega
    · rcases getq_snoc hj with ⟨hj1, hj2⟩ | ⟨hj1, hj2⟩
      · exfalso
        rw [hM j (by rw [hr.len]; exact hj1)] at mj
        rcases getq_snoc mi with ⟨h, _⟩ | ⟨_, h⟩
        · rw [hr.len] at h; omega
        · cases h
          have := hr.block_lt ⟨j, oj, c2, hj2, lj, mj⟩
          omega
      · omega

/-- What a value lays into cells. -/
def cellsG : G → Option (List G)
  | .agg gs => some gs
  | .d x => some [.d x]
  | .ptr i o => some [.ptr i o]
  | .rp xs => some [.rp xs]
  | .sl i n => some [.sl i n]
  | .slo i s o n => some [.slo i s o n]
  | .map i => some [.map i]
  | .fn f a b => some [.fn f a b]
  | .tup _ | .junk => none
/-- One cell's worth. -/
def G.one : G → Bool
  | .agg _ | .tup _ | .junk => false
  | _ => true

theorem VR.one {O : Nat → Prop} {v : Value} (h : VR w O M g v) (h1 : g.one = true) : v.oneCell' = true := by
  cases h <;> first | rfl | (rename_i h; exact h.one) | cases h1

theorem cells_ok {O : Nat → Prop} {v : Value} {gs : List G} (h : VR w O M g v) (hg : cellsG g = some gs) (h1 : gs.all G.one = true) : v.cells.size = gs.length ∧ CellsR w O M v.cells gs := by
  have one : ∀ g0 : G, g0.one = true → VR w O M g0 v → v.cells = #[v] := fun g0 h1 h => by cases h <;> first | rfl | (rename_i h; cases h <;> first | rfl | (rename_i hx; cases v <;> first | rfl | cases hx)) | cases h1
  have sing : ∀ g0 : G, g0.one = true → VR w O M g0 v → v.cells.size = [g0].length ∧ CellsR w O M v.cells [g0] := fun g0 h1 h => by
    rw [one g0 h1 h]
    refine ⟨rfl, fun j g' hj => ?_⟩
    cases j with
    | zero => simp at hj; subst hj; exact ⟨v, rfl, h.one h1, h⟩
    | succ j => simp at hj
  cases g <;> simp only [cellsG, Option.some.injEq, reduceCtorEq] at hg <;> try (subst hg; exact sing _ rfl h)
  subst hg
  cases h with
  | agg hl hr =>
    rename_i vs
    refine ⟨hl, fun j g hj => ?_⟩
    have hlt : j < _ := (List.getElem?_eq_some_iff.1 hj).1
    have hv : vs[j]? = some (vs[j]'(by omega)) := Array.getElem?_eq_getElem (by omega)
    have h2 := hr j g _ hj hv
    exact ⟨_, hv, h2.one (List.all_eq_true.1 h1 g (List.mem_of_getElem? hj)), h2⟩

theorem box_push (hr : RelH Z hp M w) {v : Value} {gs : List G} {t : TypeId} (h : v.cells.size = gs.length ∧ CellsR w (ownZ Z hp M) M v.cells gs) :
    RelH Z (hp ++ [.box t gs]) (M ++ [some (w.heap.size, 0)]) (w.alloc (.cells v.cells t)) ∧ Stp w (own hp M) (w.alloc (.cells v.cells t)) (own (hp ++ [.box t gs]) (M ++ [some (w.heap.size, 0)])) ∧ Agr hp.length M (M ++ [some (w.heap.size, 0)]) := by
  refine push_ok hr (.box t gs) v.cells t 0 fun w' O' hst hh => ⟨v.cells, hh, h.1, fun j g hj => ?_⟩
  obtain ⟨u, h1, h2, h3⟩ := h.2 j g hj
  exact ⟨u, h1, h2, h3.step hst (fun i hi => List.getElem?_append_left hi)⟩

variable {ops : Array Oper} {rest : List Oper} {Q : GPost} {F : Nat}
variable {d : Tmp} {ty : TypeId} {pos : String} {after : Array Edge}

def zeroG (i : TI) : List G := i.zero.cells.toList.map fun c => .d (nilD c)

theorem eo_alloc (hΓ : TOK P Γ) {t : TypeId} {i : TI} (hi : Γ t = some i) (h1 : (i.zero.cells.toList.all (·.oneCell')) = true) (hd : Nat.blt d N = true) (hF : F ≤ hp.length)
    (k : EO P F N ops rest Q ((d, .ptr hp.length 0) :: fr) (hp ++ [.box t (zeroG i)])) : EO P F N ops (⟨some d, .alloc t, ty, pos, after, none⟩ :: rest) Q fr hp := by
  refine eo_s hF (nblt.1 hd) (fun Z w M a hr => ?_) k
  obtain ⟨_, inf, e1, e2, e3, e4⟩ := hΓ t i hi
  have hc : i.zero.cells.size = (zeroG i).length ∧ CellsR w (ownZ Z hp M) M i.zero.cells (zeroG i) := by
    refine ⟨by simp [zeroG], fun j g hj => ?_⟩
    simp only [zeroG, List.getElem?_map] at hj
    obtain ⟨c, hc, rfl⟩ := Option.map_eq_some_iff.1 hj
    exact ⟨c, by simpa using hc, List.all_eq_true.1 h1 c (List.mem_of_getElem? hc), .d (vd_nilD c (List.all_eq_true.1 h1 c (List.mem_of_getElem? hc)))⟩
  obtain ⟨r1, r2, r3⟩ := box_push (t := t) hr.heap hc
  refine ⟨.pointer (some ⟨w.heap.size, 0, none⟩), _, _, ?_, r1, .ptr (c := 0) ?_, r2, r3⟩
  · simp [execOp, Instr.alloc, zeroValue, typeInfo, e1, e4, newVar, newRow]
  · rw [← hr.heap.len]; simp

theorem eo_box {t : TypeId} {x : Operand} {gs : List G} (hx : fr.ev x = some g) (hg : cellsG g = some gs) (h1 : gs.all G.one = true) (hd : Nat.blt d N = true) (hF : F ≤ hp.length)
    (k : EO P F N ops rest Q ((d, .ptr hp.length 0) :: fr) (hp ++ [.box t gs])) : EO P F N ops (⟨some d, .box t x, ty, pos, after, none⟩ :: rest) Q fr hp := by
  refine eo_s hF (nblt.1 hd) (fun Z w M a hr => ?_) k
  obtain ⟨r1, r2, r3⟩ := box_push (t := t) hr.heap (cells_ok (hr.ev hx) hg h1)
  refine ⟨.pointer (some ⟨w.heap.size, 0, none⟩), _, _, ?_, r1, .ptr (c := 0) ?_, r2, r3⟩
  · simp [execOp, Instr.box, newVar, newRow]
  · rw [← hr.heap.len]; simp

/-- Cells are written into a list of cells. -/
def setAt {α : Type} (l : List α) (off : Nat) (new : List α) : List α := l.take off ++ new ++ l.drop (off + new.length)

theorem setAt_get {α : Type} {l new : List α} {off : Nat} (h : off + new.length ≤ l.length) (j : Nat) : (setAt l off new)[j]? = if off ≤ j ∧ j < off + new.length then new[j - off]? else l[j]? := by
  unfold setAt
  by_cases h1 : j < off
  · rw [if_neg (by omega), List.append_assoc, List.getElem?_append_left (by simp; omega), List.getElem?_take_of_lt h1]
  · by_cases h2 : j < off + new.length
    · rw [if_pos ⟨by omega, h2⟩, List.append_assoc, List.getElem?_append_right (by simp; omega), List.getElem?_append_left (by simp; omega)]
      congr 1
      simp
      omega
    · rw [if_neg (by omega), List.getElem?_append_right (by simp; omega), List.getElem?_drop]
      congr 1
      simp
      omega
theorem setAt_length {α : Type} {l new : List α} {off : Nat} (h : off + new.length ≤ l.length) : (setAt l off new).length = l.length := by
  simp [setAt]; omega

/-- A write into the block of an object. -/
theorem write_ok (hr : RelH Z hp M w) {id b c off : Nat} {o o' : Ob} {t : TypeId} {cs : Array Value} {vs : List Value} (ho : hp[id]? = some o) (hl : o.live = true) (hM : M[id]? = some (some (b, c))) (hb : w.heap[b]? = some (.cells cs t (0, 0)))
    (hfit : off + vs.length ≤ cs.size) (h1 : ∀ v ∈ vs, v.oneCell' = true)
    (ho' : ∀ (w' : World), Stp w (ownZ Z hp M) w' (ownZ Z (hp.set id o') M) → w'.heap[b]? = some (.cells (setAt cs.toList off vs).toArray t (0, 0)) → ObR w' (ownZ Z (hp.set id o') M) M o' (some (b, c))) (hl' : o'.live = true) :
    ∃ w', (storeCells ⟨b, off, none⟩ vs).run P w = .ok () w' ∧ RelH Z (hp.set id o') M w' ∧ Stp w (own hp M) w' (own (hp.set id o') M) := by
  have hrun := run_storeCells_at P b off t vs 0 cs w hb (by simpa using hfit) h1
  have hid : id < hp.length := (List.getElem?_eq_some_iff.1 ho).1
  have hown : ∀ b', own (hp.set id o') M b' → own hp M b' := by
    rintro b' ⟨i, oi, ci, e1, e2, e3⟩
    by_cases hi : i = id
    · subst hi; exact ⟨i, o, ci, ho, hl, e3⟩
    · rw [List.getElem?_set_ne (Ne.symm hi)] at e1; exact ⟨i, oi, ci, e1, e2, e3⟩
  have hown' : ∀ b', own hp M b' → own (hp.set id o') M b' := by
    rintro b' ⟨i, oi, ci, e1, e2, e3⟩
    by_cases hi : i = id
    · subst hi; exact ⟨i, o', ci, by simp [hid], hl', e3⟩
    · exact ⟨i, oi, ci, by rw [List.getElem?_set_ne (Ne.symm hi)]; exact e1, e2, e3⟩
  have hother : ∀ k, k ≠ b → (w.setRow b (setAt cs.toList off vs).toArray).heap[k]? = w.heap[k]? := fun k hk => setRow_other w b k _ hk
  have hst : Stp w (own hp M) (w.setRow b (setAt cs.toList off vs).toArray) (own (hp.set id o') M) :=
    ⟨by simp, fun b' _ hn => hother b' fun e => hn (e ▸ ⟨id, o, c, ho, hl, hM⟩), fun b' _ h => hown b' h, rfl, rfl, rfl⟩
  refine ⟨_, hrun, ⟨by simp [hr.len], fun i oi m e1 e2 => ?_, fun b' hb' hz => hr.apart b' (hown b' hb') hz, fun b' hz => by have := hr.old b' hz; simp; exact this, hr.amb_stp hst, fun i j oi oj b1 c1 c2 e1 e2 l1 l2 m1 m2 => ?_⟩, ?_⟩
  · by_cases hi : i = id
    · subst hi
      simp [hid] at e1
      subst e1
      rw [hM] at e2
      cases e2
      exact ho' _ (stp_z Z hst) (setRow_heap w b cs _ t _ hb)
    · rw [List.getElem?_set_ne (Ne.symm hi)] at e1
      have := hr.obj i oi m e1 e2
      refine this.move (k := M.length) (stp_z Z hst) (fun _ _ => rfl) this.bel fun b' c' e hl2 => ?_
      subst e
      refine hother b' fun e => hi ?_
      subst e
      exact hr.inj i id oi o b' c' c e1 ho hl2 hl e2 hM
  · have key : ∀ (i : Nat) (oi : Ob), (hp.set id o')[i]? = some oi → oi.live = true → ∃ oi' : Ob, hp[i]? = some oi' ∧ oi'.live = true := fun i oi e1 l1 => by
      by_cases hi : i = id
      · subst hi; exact ⟨o, ho, hl⟩
      · rw [List.getElem?_set_ne (Ne.symm hi)] at e1; exact ⟨oi, e1, l1⟩
    obtain ⟨oi', f1, f2⟩ := key i oi e1 l1
    obtain ⟨oj', f3, f4⟩ := key j oj e2 l2
    exact hr.inj i j oi' oj' b1 c1 c2 f1 f3 f2 f4 m1 m2
  · exact hst

theorem CellsR.setAt {O : Nat → Prop} {cs vs : Array Value} {gs new : List G} {off : Nat} (hc : CellsR w O M cs gs) (hn : CellsR w O M vs new) (hl : vs.size = new.length) (hf : off + new.length ≤ gs.length) (hf' : gs.length ≤ cs.size) :
    CellsR w O M (Gk.setAt cs.toList off vs.toList).toArray (Gk.setAt gs off new) := by
  intro j g hj
  rw [setAt_get hf] at hj
  have e : (Gk.setAt cs.toList off vs.toList).toArray[j]? = if off ≤ j ∧ j < off + new.length then vs[j - off]? else cs[j]? := by
    rw [List.getElem?_toArray, setAt_get (by simp; omega)]
    simp [hl]
  rw [e]
  by_cases h1 : off ≤ j ∧ j < off + new.length
  · rw [if_pos h1] at hj ⊢; exact hn _ g hj
  · rw [if_neg h1] at hj ⊢; exact hc j g hj

/-- A store into a local. -/
theorem eo_store (hΓ : TOK P Γ) {t tb : TypeId} {x y : Operand} {i : TI} {id off : Nat} {gs new : List G} (hi : Γ t = some i) (hx : fr.ev x = some (.ptr id off)) (ho : hp[id]? = some (.box tb gs)) (hy : fr.ev y = some g) (hg : cellsG g = some new)
    (h1 : new.all G.one = true) (hsz : Nat.beq new.length i.size = true) (hfit : Nat.ble (off + new.length) gs.length = true) (hF : F ≤ hp.length)
    (k : EO P F N ops rest Q fr (hp.set id (.box tb (setAt gs off new)))) : EO P F N ops (⟨none, .store t x y, ty, pos, after, none⟩ :: rest) Q fr hp := by
  refine eo_u hF (fun Z w M a hr => ?_) k
  have hvx := hr.ev hx
  have hvy := cells_ok (hr.ev hy) hg h1
  simp only [execOp]
  generalize a.eval x = vx at hvx
  cases hvx with
  | ptr hM =>
    rename_i b c
    obtain ⟨cs, hb, hl, hcr⟩ := hr.heap.obj id _ _ ho hM
    have hfit' := Nat.le_of_ble_eq_true hfit
    have hvl : (a.eval y).cells.toList.length = new.length := by simp [hvy.1]
    obtain ⟨w', r1, r2, r3⟩ := write_ok (P := P) (o' := .box tb (setAt gs off new)) hr.heap ho rfl hM hb (off := off) (vs := (a.eval y).cells.toList) (by rw [hvl, hl]; exact hfit') (fun v hv => by
        obtain ⟨j, hj⟩ := List.getElem?_of_mem hv
        have hlt : j < new.length := by rw [← hvl]; exact (List.getElem?_eq_some_iff.1 hj).1
        obtain ⟨u, e1, e2, _⟩ := hvy.2 j _ (List.getElem?_eq_getElem hlt)
        have : some v = some u := by rw [← e1, ← hj]; simp
        cases this; exact e2)
      (fun w' hst hh => ⟨_, hh, by simp [setAt_length (show off + (a.eval y).cells.toList.length ≤ cs.toList.length by rw [hvl]; simp [hl]; exact hfit'), setAt_length hfit', hl], CellsR.setAt
        (fun j g hj => let ⟨v, e1, e2, e3⟩ := hcr j g hj; ⟨v, e1, e2, e3.step hst (fun _ _ => rfl)⟩) (fun j g hj => let ⟨v, e1, e2, e3⟩ := hvy.2 j g hj; ⟨v, e1, e2, e3.step hst (fun _ _ => rfl)⟩) hvy.1 hfit' (by omega)⟩) rfl
    refine ⟨w', M, ?_, r2, r3, ⟨by rw [hr.heap.len]; exact Nat.le_refl _, fun _ _ => rfl⟩⟩
    have hs := run_size' (P := P) (w := w) hΓ hi
    have : (a.eval y).cells.size = i.size := by rw [hvy.1]; exact Nat.eq_of_beq_eq_true hsz
    simp [Instr.storeAt, Instr.sureAddr, storeVar, hs, this, r1]
end
end Go.Gk
