/-
  THE GHOST LOGIC, PART 9: literals of slices, structs and arrays; parts of strings and slices; numbers with a condition.
-/
import Derived.Test.YtpgnhnjhpnbelaaGreatDoorGk8
import Derived.Great.FillDense
set_option linter.unusedVariables false
set_option linter.unusedSimpArgs false
namespace Go.Gk

def fillG (place : Nat → Option (Nat × Nat)) : List G → List (Nat × G) → Option (List G)
  | cells, [] => some cells
  | cells, (i, g) :: rest => match place i, cellsG g with
    | some (off, size), some gs => bif Nat.beq gs.length size && Nat.ble (off + size) cells.length && gs.all G.one then fillG place (setAt cells off gs) rest else none
    | _, _ => none

def evParts (fr : Fr) : List (Nat × Operand) → Option (List (Nat × G))
  | [] => some []
  | (i, x) :: r => match fr.ev x, evParts fr r with
    | some g, some l => some ((i, g) :: l)
    | _, _ => none

def toDs : List G → Option (List D)
  | [] => some []
  | .d x :: r => match toDs r with
    | some l => some (x :: l)
    | none => none
  | _ => none

theorem toDs_eq : ∀ {gs : List G} {ds : List D}, toDs gs = some ds → gs = ds.map G.d
  | [], ds, h => by simp [toDs] at h; subst h; rfl
  | .d x :: r, ds, h => by
    simp only [toDs] at h
    cases hr : toDs r with
    | none => rw [hr] at h; cases h
    | some l =>
      rw [hr] at h
      cases h
      simp [toDs_eq hr]
  | .agg _ :: _, _, h | .ptr _ _ :: _, _, h | .rp _ :: _, _, h | .sl _ _ :: _, _, h | .slo _ _ _ _ :: _, _, h | .map _ :: _, _, h | .fn _ _ _ :: _, _, h | .tup _ :: _, _, h | .junk :: _, _, h => by simp [toDs] at h

section
variable {P : Program} {Γ : TypeId → Option TI} {F N : Nat} {fr : Fr} {hp : List Ob} {g : G} {Q : GPost} {ops : Array Oper} {rest : List Oper}
variable {d : Tmp} {ty : TypeId} {pos : String} {after : Array Edge} {Z : Env} {M : Mp} {w : World} {a : Act}

theorem fill_ok (hr : Rel Z hp M w fr a N) {place : Nat → Option (Nat × Nat)} : ∀ (ps : List (Nat × Operand)) {pg : List (Nat × G)} {gs gs' : List G} {cs : Array Value}, evParts fr ps = some pg → fillG place gs pg = some gs' → cs.size = gs.length → CellsR w (ownZ Z hp M) M cs gs →
    ∃ cs', Instr.fill place cs (ps.map fun p => (p.1, a.eval p.2)) = some cs' ∧ cs'.size = gs'.length ∧ gs'.length = gs.length ∧ CellsR w (ownZ Z hp M) M cs' gs'
  | [], pg, gs, gs', cs, h1, h2, h3, h4 => by
    simp [evParts] at h1
    subst h1
    simp [fillG] at h2
    subst h2
    exact ⟨cs, rfl, h3, rfl, h4⟩
  | (i, x) :: ps, pg, gs, gs', cs, h1, h2, h3, h4 => by
    simp only [evParts] at h1
    cases hx : fr.ev x with
    | none => rw [hx] at h1; simp at h1
    | some g0 =>
      cases hl : evParts fr ps with
      | none => rw [hx, hl] at h1; simp at h1
      | some l0 =>
        rw [hx, hl] at h1
        cases h1
        simp only [fillG] at h2
        split at h2
        · rename_i off size gs0 hp0 hc0
          cases hb : (Nat.beq gs0.length size && Nat.ble (off + size) gs.length && gs0.all G.one) with
          | false => rw [hb] at h2; cases h2
          | true =>
            rw [hb] at h2
            simp only [Bool.and_eq_true] at hb
            obtain ⟨⟨b1, b2⟩, b3⟩ := hb
            have b1' := Nat.eq_of_beq_eq_true b1
            have b2' := Nat.le_of_ble_eq_true b2
            obtain ⟨c1, c2⟩ := cells_ok (hr.ev hx) hc0 b3
            have hfit : off + gs0.length ≤ gs.length := by omega
            obtain ⟨g1, g2⟩ := Great.foldl_set off (a.eval x).cells.toList 0 cs
            have hnew : CellsR w (ownZ Z hp M) M (((a.eval x).cells.toList.zipIdx 0).foldl (fun cs (x : Value × Nat) => cs.setIfInBounds (off + x.2) x.1) cs) (setAt gs off gs0) := by
              intro j g hj
              rw [g2 j]
              rw [setAt_get (by omega)] at hj
              by_cases hin : off ≤ j ∧ j < off + gs0.length
              · rw [if_pos hin] at hj
                rw [if_pos (by simp [c1]; omega)]
                obtain ⟨v, e1, e2, e3⟩ := c2 _ g hj
                exact ⟨v, by simpa using e1, e2, e3⟩
              · rw [if_neg hin] at hj
                rw [if_neg (by simp [c1]; omega)]
                exact h4 j g hj
            obtain ⟨cs', r1, r2, r3, r4⟩ := fill_ok hr ps hl h2 (by rw [g1, h3, setAt_length hfit]) hnew
            refine ⟨cs', ?_, r2, by rw [r3, setAt_length hfit], r4⟩
            simp only [List.map_cons]
            unfold Instr.fill
            simp only [hp0, c1, b1']
            rw [if_neg (by simp; omega), ← r1]
            congr 1
            rw [← Array.foldl_toList, Array.toList_zipIdx]
        · cases h2

/-- A new block that nobody owns: data. -/
theorem free_ok (hr : RelH Z hp M w) (o : Obj) : RelH Z hp M (w.alloc o) ∧ Stp w (own hp M) (w.alloc o) (own hp M) ∧ ¬ ownZ Z hp M w.heap.size := by
  have hst : Stp w (own hp M) (w.alloc o) (own hp M) := ⟨by simp, fun b hb _ => heap_old w o b hb, fun _ _ h => h, rfl, rfl, rfl⟩
  refine ⟨⟨hr.len, fun i o' m h1 h2 => ?_, hr.apart, fun b hb => by have := hr.old b hb; simp; omega, hr.amb_stp hst, hr.inj⟩, hst, ?_⟩
  · have := hr.obj i o' m h1 h2
    refine this.move (k := M.length) (stp_z Z hst) (fun _ _ => rfl) this.bel fun b c e hl => ?_
    subst e
    exact heap_old w o b (hr.block_lt ⟨i, o', c, h1, hl, h2⟩)
  · rintro (h | h)
    · have := hr.block_lt h; omega
    · have := hr.old _ (Z.hv _ h); omega

def zerosG (i : TI) (len : Nat) : List G := (List.range (len * i.size)).map fun j => .d (nilD (i.zero.cells[j % i.zero.cells.size]!))

theorem zeros_ok {O : Nat → Prop} {i : TI} {len : Nat} (h1 : (i.zero.cells.toList.all (·.oneCell')) = true) (h2 : Nat.blt 0 i.zero.cells.size = true) :
    ((Array.range (len * i.size)).map (i.zero.cells[· % i.zero.cells.size]!)).size = (zerosG i len).length ∧ CellsR w O M ((Array.range (len * i.size)).map (i.zero.cells[· % i.zero.cells.size]!)) (zerosG i len) := by
  refine ⟨by simp [zerosG], fun j g hj => ?_⟩
  simp only [zerosG, List.getElem?_map] at hj
  obtain ⟨k, hk, rfl⟩ := Option.map_eq_some_iff.1 hj
  have hlt : j < len * i.size := by have := (List.getElem?_eq_some_iff.1 hk).1; simpa using this
  have hkj : k = j := by have := (List.getElem?_eq_some_iff.1 hk).2; simpa using this.symm
  subst hkj
  have h0 : k % i.zero.cells.size < i.zero.cells.size := Nat.mod_lt _ (nblt.1 h2)
  have e : i.zero.cells[k % i.zero.cells.size]! = i.zero.cells[k % i.zero.cells.size]'h0 := getElem!_pos i.zero.cells (k % i.zero.cells.size) h0
  have h1' := List.all_eq_true.1 h1 (i.zero.cells[k % i.zero.cells.size]'h0) (by simp)
  refine ⟨i.zero.cells[k % i.zero.cells.size]!, by simp [hlt], by rw [e]; exact h1', .d (vd_nilD _ (by rw [e]; exact h1'))⟩

theorem run_buildSlice (hΓ : TOK P Γ) {t e : TypeId} {len : Nat} {i1 i2 : TI} {parts : Array (Nat × Operand)} {pg : List (Nat × G)} {gs : List G} (hr : Rel Z hp M w fr a N) (h1 : Γ t = some i1) (h1' : i1.desc = .slice e) (h2 : Γ e = some i2)
    (hz : (i2.zero.cells.toList.all (·.oneCell')) = true) (hz' : Nat.blt 0 i2.zero.cells.size = true) (hlen : Nat.ble (len * i2.size) 16777216 = true) (hp' : evParts fr parts.toList = some pg) (hf : fillG (fun i => some (i * i2.size, i2.size)) (zerosG i2 len) pg = some gs) :
    ∃ cs, (Instr.buildSlice t len (parts.map fun (i, x) => (i, a.eval x))).run P w = .ok (.slice (some ⟨w.heap.size, 0, none⟩) len len) (w.alloc (.cells cs e)) ∧ cs.size = gs.length ∧ gs.length = len * i2.size ∧ CellsR w (ownZ Z hp M) M cs gs := by
  obtain ⟨u1, _⟩ := hΓ t _ h1
  rw [h1'] at u1
  obtain ⟨_, inf, e1, e2, e3, e4⟩ := hΓ e _ h2
  have hs := run_size' (P := P) (w := w) hΓ h2
  obtain ⟨z1, z2⟩ := zeros_ok (w := w) (O := ownZ Z hp M) (M := M) (len := len) hz hz'
  have key : ∀ z0 : Array Value, CellsR w (ownZ Z hp M) M ((Array.range (len * i2.size)).map (z0[· % z0.size]!)) (zerosG i2 len) →
      ∃ cs', Instr.fill (fun i => some (i * i2.size, i2.size)) ((Array.range (len * i2.size)).map (z0[· % z0.size]!)) (parts.toList.map fun p => (p.1, a.eval p.2)) = some cs' ∧ cs'.size = gs.length ∧ gs.length = (zerosG i2 len).length ∧ CellsR w (ownZ Z hp M) M cs' gs := fun z0 hz0 =>
    fill_ok hr parts.toList hp' hf (by simp [zerosG]) hz0
  have hle : ¬ (len * i2.size > 2 ^ 24) := by have := Nat.le_of_ble_eq_true hlen; omega
  by_cases h0 : len * i2.size = 0
  · obtain ⟨cs', r1, r2, r3, r4⟩ := key #[] (by
      have : zerosG i2 len = [] := by simp [zerosG, h0]
      rw [this]; intro j g hj; simp at hj)
    refine ⟨cs', ?_, r2, by rw [r3]; simp [zerosG], r4⟩
    simp [Instr.buildSlice, run_underlying u1, hs, hle, h0, newRow]
    simp [h0] at r1
    simp [r1]
  · obtain ⟨cs', r1, r2, r3, r4⟩ := key i2.zero.cells z2
    refine ⟨cs', ?_, r2, by rw [r3]; simp [zerosG], r4⟩
    simp [Instr.buildSlice, run_underlying u1, hs, hle, h0, newRow, zeroValue, typeInfo, e1, e4]
    simp [r1]

/-- A SLICE LITERAL, as data. -/
theorem eo_lit (hΓ : TOK P Γ) {t e : TypeId} {len : Nat} {i1 i2 : TI} {parts : Array (Nat × Operand)} {pg : List (Nat × G)} {gs : List G} {ds : List D} (h1 : Γ t = some i1) (h1' : i1.desc = .slice e) (h2 : Γ e = some i2)
    (hz : (i2.zero.cells.toList.all (·.oneCell')) = true) (hz' : Nat.blt 0 i2.zero.cells.size = true) (hlen : Nat.ble (len * i2.size) 16777216 = true) (hlen' : Nat.ble len 16777216 = true) (hp' : evParts fr parts.toList = some pg) (hf : fillG (fun i => some (i * i2.size, i2.size)) (zerosG i2 len) pg = some gs) (hds : toDs gs = some ds)
    (hd : Nat.blt d N = true) (hF : F ≤ hp.length) (k : EO P F N ops rest Q ((d, .d (.ro len ds)) :: fr) hp) : EO P F N ops (⟨some d, .buildSlice t len parts, ty, pos, after, none⟩ :: rest) Q fr hp := by
  refine eo_s hF (nblt.1 hd) (fun Z w M a hr => ?_) k
  obtain ⟨cs, r1, r2, r3, r4⟩ := run_buildSlice hΓ hr h1 h1' h2 hz hz' hlen hp' hf
  obtain ⟨f1, f2, f3⟩ := free_ok hr.heap (.cells cs e)
  have hgs := toDs_eq hds
  have hlen'' : len ≤ maxLen := by have := Nat.le_of_ble_eq_true hlen'; simp only [maxLen]; omega
  refine ⟨_, _, M, by simp [execOp, r1]; rfl, f1, ?_, f2, ⟨by rw [hr.heap.len]; exact Nat.le_refl _, fun _ _ => rfl⟩⟩
  have hb := heap_alloc_new w (.cells cs e)
  have hrd : ∀ j dd, ds[j]? = some dd → ∃ v, cs[j]? = some v ∧ VD w (ownZ Z hp M) dd v := fun j dd hj => by
    obtain ⟨v, e1, e2, e3⟩ := r4 j (.d dd) (by rw [hgs, List.getElem?_map, hj]; rfl)
    cases e3 with
    | d h => exact ⟨v, e1, h⟩
  refine .d (.ro len ds w.heap.size 0 len (fun j => cs.getD j undef) (by simp) f3 (Nat.le_refl _) hlen'' (fun j dd hj => ?_) (fun j dd hj => ?_))
  · obtain ⟨v, e1, _⟩ := hrd j dd hj
    rw [Nat.zero_add, cell_of_row _ _ j cs _ _ hb]
    simp [e1]
  · obtain ⟨v, e1, e2⟩ := hrd j dd hj
    simpa [e1] using e2.step (stp_z Z f2)

/-- A SLICE LITERAL, as a row of one's own. -/
theorem eo_litRow (hΓ : TOK P Γ) {t e : TypeId} {len : Nat} {i1 i2 : TI} {parts : Array (Nat × Operand)} {pg : List (Nat × G)} {gs : List G} {ds : List D} (h1 : Γ t = some i1) (h1' : i1.desc = .slice e) (h2 : Γ e = some i2)
    (hz : (i2.zero.cells.toList.all (·.oneCell')) = true) (hz' : Nat.blt 0 i2.zero.cells.size = true) (hlen : Nat.ble (len * i2.size) 16777216 = true) (hlen' : Nat.ble len 16777216 = true) (hp' : evParts fr parts.toList = some pg) (hf : fillG (fun i => some (i * i2.size, i2.size)) (zerosG i2 len) pg = some gs) (hds : toDs gs = some ds)
    (hd : Nat.blt d N = true) (hF : F ≤ hp.length) (k : EO P F N ops rest Q ((d, .sl hp.length len) :: fr) (hp ++ [.row e i2.size len ds])) : EO P F N ops (⟨some d, .buildSlice t len parts, ty, pos, after, none⟩ :: rest) Q fr hp := by
  refine eo_s hF (nblt.1 hd) (fun Z w M a hr => ?_) k
  obtain ⟨cs, r1, r2, r3, r4⟩ := run_buildSlice hΓ hr h1 h1' h2 hz hz' hlen hp' hf
  have hgs := toDs_eq hds
  have hlen'' : len ≤ maxLen := by have := Nat.le_of_ble_eq_true hlen'; simp only [maxLen]; omega
  have hdl : ds.length = len * i2.size := by rw [← r3, hgs]; simp
  obtain ⟨f1, f2, f3⟩ := push_ok hr.heap (.row e i2.size len ds) cs e len fun w' O' hst hh => ⟨hdl, cs, hh, by rw [r2, r3], Nat.le_refl _, hlen'', fun j dd hj => by
    obtain ⟨v, e1, e2, e3⟩ := r4 j (.d dd) (by rw [hgs, List.getElem?_map, hj]; rfl)
    cases e3 with
    | d h => exact ⟨v, e1, h.step hst⟩⟩
  refine ⟨_, _, _, by simp [execOp, r1]; rfl, f1, .sl (c := len) ?_ (Nat.le_refl _) hlen'', f2, f3⟩
  rw [← hr.heap.len]; simp

def placesG (Γ : TypeId → Option TI) (fs : Array Field) (i : Nat) : Option (Nat × Nat) := (fs[i]?).bind fun f => (Γ f.type).map fun i => (f.offset, i.size)

theorem places_run (hΓ : TOK P Γ) : ∀ (l : List Field), (∀ f ∈ l, (Γ f.type).isSome = true) → ∃ r : List (Nat × Nat), (l.mapM fun f => (Prod.mk f.offset <$> sizeOf f.type : Sem (Nat × Nat))).run P w = .ok r w ∧ ∀ i : Nat, r[i]? = (l[i]?).bind fun f => (Γ f.type).map fun i => (f.offset, i.size)
  | [], _ => ⟨[], rfl, fun i => by simp⟩
  | f :: l, h => by
    obtain ⟨r, h1, h2⟩ := places_run hΓ l fun f hf => h f (List.mem_cons_of_mem _ hf)
    obtain ⟨i, hi⟩ := Option.isSome_iff_exists.1 (h f List.mem_cons_self)
    refine ⟨(f.offset, i.size) :: r, ?_, fun j => ?_⟩
    · rw [List.mapM_cons]
      simp [run_size' hΓ hi, h1]
    · cases j with
      | zero => simp [hi]
      | succ j => simpa using h2 j

/-- A STRUCT LITERAL. -/
theorem eo_build (hΓ : TOK P Γ) {t : TypeId} {fs : Array Field} {i1 : TI} {parts : Array (Nat × Operand)} {pg : List (Nat × G)} {gs : List G} (h1 : Γ t = some i1) (h1' : i1.desc = .struct fs) (hfs : (fs.toList.all fun f => (Γ f.type).isSome) = true)
    (hz : (i1.zero.cells.toList.all (·.oneCell')) = true) (hp' : evParts fr parts.toList = some pg) (hf : fillG (placesG Γ fs) (zeroG i1) pg = some gs)
    (hd : Nat.blt d N = true) (k : EO P F N ops rest Q ((d, .agg gs) :: fr) hp) : EO P F N ops (⟨some d, .build t parts, ty, pos, after, none⟩ :: rest) Q fr hp := by
  refine eo_p hd (fun Z w M a hr => ?_) k
  obtain ⟨u1, inf, e1, e2, e3, e4⟩ := hΓ t _ h1
  rw [h1'] at u1
  obtain ⟨r, p1, p2⟩ := places_run (P := P) (w := w) hΓ fs.toList fun f hf => List.all_eq_true.1 hfs f hf
  have hpl : (fun i => (r.toArray)[i]?) = placesG Γ fs := by
    funext i
    rw [List.getElem?_toArray, p2 i]
    simp [placesG]
  have hpl' : (fun i => r[i]?) = placesG Γ fs := by rw [← hpl]; funext i; simp
  obtain ⟨cs', r1, r2, r3, r4⟩ := fill_ok (place := placesG Γ fs) (cs := i1.zero.cells) hr parts.toList hp' hf (by simp [zeroG]) (fun j g hj => by
    simp only [zeroG, List.getElem?_map] at hj
    obtain ⟨c, hc, rfl⟩ := Option.map_eq_some_iff.1 hj
    exact ⟨c, by simpa using hc, List.all_eq_true.1 hz c (List.mem_of_getElem? hc), .d (vd_nilD c (List.all_eq_true.1 hz c (List.mem_of_getElem? hc)))⟩)
  refine ⟨.agg cs', ?_, .agg r2 fun j g v hg hv => ?_⟩
  · have hm : (fs.mapM fun f => (Prod.mk f.offset <$> sizeOf f.type : Sem (Nat × Nat))).run P w = .ok r.toArray w := by
      rw [Array.mapM_eq_mapM_toList]
      simp [p1]
    simp [execOp, Instr.build, zeroValue, typeInfo, e1, e4, run_underlying u1, hm]
    rw [← hpl'] at r1
    simp [r1]
  · obtain ⟨v', f1, f2, f3⟩ := r4 j g hg
    rw [hv] at f1
    cases f1
    exact f3
end
end Go.Gk
