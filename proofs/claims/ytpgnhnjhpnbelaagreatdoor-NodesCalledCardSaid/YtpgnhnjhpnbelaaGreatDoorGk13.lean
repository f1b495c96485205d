/-
  THE GHOST LOGIC, PART 13: make; stores into rows; a loop that is unrolled; rules for elements inside regions that draw.
-/
import Derived.Test.YtpgnhnjhpnbelaaGreatDoorGk12
set_option linter.unusedVariables false
set_option linter.unusedSimpArgs false
namespace Go.Gk

def zerosD (i : TI) (n : Nat) : List D := (List.replicate n (i.zero.cells.toList.map D.v)).flatten
theorem zerosD_length (i : TI) (n : Nat) : (zerosD i n).length = n * i.zero.cells.size := by simp [zerosD]
theorem flatten_get {α : Type} (z : List α) : ∀ (n j : Nat), j < n * z.length → (List.replicate n z).flatten[j]? = z[j % z.length]?
  | 0, j, h => by simp at h
  | n + 1, j, h => by
    have e : (n + 1) * z.length = n * z.length + z.length := by rw [Nat.add_mul, Nat.one_mul]
    rw [e] at h
    rw [List.replicate_succ, List.flatten_cons]
    by_cases hj : j < z.length
    · rw [List.getElem?_append_left hj, Nat.mod_eq_of_lt hj]
    · rw [List.getElem?_append_right (by omega), flatten_get z n _ (by omega), Nat.mod_eq_sub_mod (a := j) (b := z.length) (by omega)]

section
variable {P : Program} {Γ : TypeId → Option TI} {F N : Nat} {fr : Fr} {hp : List Ob} {g : G} {Q : GPost} {ops : Array Oper} {rest : List Oper}
variable {d : Tmp} {ty : TypeId} {pos : String} {after : Array Edge} {gd : Option (Nat × Bool)}

/-- MAKE: a row of zeros. -/
theorem eo_make (hΓ : TOK P Γ) {t e : TypeId} {i1 i2 : TI} {x y : Operand} {k1 k2 : IntKind} (l c : Nat) (h1 : Γ t = some i1) (h1' : i1.desc = .slice e) (h2 : Γ e = some i2) (hz : (i2.zero.cells.toList.all (·.oneCell')) = true) (hz' : Nat.blt 0 i2.zero.cells.size = true) (hzs : Nat.beq i2.zero.cells.size i2.size = true)
    (hx : fr.ev x = some (.d (.v (.int k1 (l : Int))))) (hy : fr.ev y = some (.d (.v (.int k2 (c : Int))))) (hlc : l ≤ c) (hc : c ≤ maxLen) (hb : i2.bytes * c ≤ 281474976710656) (hd : Nat.blt d N = true) (hF : F ≤ hp.length)
    (k : EO P F N ops rest Q ((d, .sl hp.length l) :: fr) (hp ++ [.row e i2.size l (zerosD i2 l)])) : EO P F N ops (⟨some d, .makeSlice t x y, ty, pos, after, none⟩ :: rest) Q fr hp := by
  refine eo_s hF (nblt.1 hd) (fun Z w M a hr => ?_) k
  obtain ⟨u1, _⟩ := hΓ t _ h1
  rw [h1'] at u1
  obtain ⟨_, inf, e1, e2, e3, e4⟩ := hΓ e _ h2
  have hzs' : i2.zero.cells.size = i2.size := Nat.eq_of_beq_eq_true hzs
  have hz0 : 0 < i2.zero.cells.size := nblt.1 hz'
  have hcb : c ≤ 9223372036854775807 := by simpa [maxLen] using hc
  have w1 : IntKind.i64.wrap (l : Int) = l := IntWalk.i64_in _ (by omega)
  have w2 : IntKind.i64.wrap (c : Int) = c := IntWalk.i64_in _ (by omega)
  have t1 : ¬ ((c : Int) < 0) := by omega
  have t2 : ¬ (281474976710656 < (i2.bytes : Int) * (c : Int)) := by
    have : ((i2.bytes * c : Nat) : Int) ≤ ((281474976710656 : Nat) : Int) := Int.ofNat_le.2 hb
    rw [Int.natCast_mul] at this
    omega
  have t3 : ¬ ((l : Int) < 0) := by omega
  have t4 : ¬ ((l : Int) > (c : Int)) := by omega
  let cs : Array Value := (Array.range (c * i2.size)).map (i2.zero.cells[· % i2.zero.cells.size]!)
  have hrun : (execOp a.eval ⟨some d, .makeSlice t x y, ty, pos, after, none⟩).run P w = .ok (.value (.slice (some ⟨w.heap.size, 0, none⟩) l c)) (w.alloc (.cells cs e)) := by
    have s1 := run_size' (P := P) (w := w) hΓ h2
    simp only [execOp, hr.ev_v hx, hr.ev_v hy]
    by_cases h0 : c * i2.size = 0
    · have : cs = #[] := by simp [cs, h0]
      rw [this]
      simp [Instr.makeSlice, run_underlying u1, asInt, asIntOf, typeInfo, e1, e3, w1, w2, t1, t2, t3, t4, s1, h0, newRow]
      congr 2
      exact Array.ext (by simp) (fun i h1 _ => by simp at h1)
    · simp [Instr.makeSlice, run_underlying u1, asInt, asIntOf, typeInfo, e1, e3, w1, w2, t1, t2, t3, t4, s1, h0, newRow, zeroValue, e4, cs]
  have hcell : ∀ j, j < c * i2.size → ∃ v, cs[j]? = some v ∧ i2.zero.cells.toList[j % i2.zero.cells.size]? = some v := fun j hj => by
    have hm : j % i2.zero.cells.size < i2.zero.cells.size := Nat.mod_lt _ hz0
    refine ⟨i2.zero.cells[j % i2.zero.cells.size]'hm, ?_, by simp [hm]⟩
    simp [cs, hj, getElem!_pos i2.zero.cells (j % i2.zero.cells.size) hm]
  have hll : l * i2.size ≤ c * i2.size := Nat.mul_le_mul_right _ hlc
  obtain ⟨f1, f2, f3⟩ := push_ok hr.heap (.row e i2.size l (zerosD i2 l)) cs e c fun w' O' hst hh => ⟨by rw [zerosD_length, hzs'], cs, hh, by simp [cs], hlc, hc, fun j dd hj => by
    have hlt : j < l * i2.size := by have := (List.getElem?_eq_some_iff.1 hj).1; rw [zerosD_length, hzs'] at this; exact this
    obtain ⟨v, g1, g2⟩ := hcell j (by omega)
    unfold zerosD at hj
    rw [flatten_get _ _ _ (by simp [hzs']; exact hlt)] at hj
    simp only [List.length_map, Array.length_toList, List.getElem?_map, g2, Option.map_some, Option.some.injEq] at hj
    subst hj
    exact ⟨v, g1, .v v (List.all_eq_true.1 hz v (List.mem_of_getElem? g2))⟩⟩
  refine ⟨_, _, _, hrun, f1, .sl (c := c) ?_ hlc hc, f2, f3⟩
  rw [← hr.heap.len]; simp

theorem DataR.setAt {w : World} {O : Nat → Prop} {cs vs : Array Value} {ds new : List D} {off : Nat} (hc : DataR w O cs ds) (hn : DataR w O vs new) (hl : vs.size = new.length) (hf : off + new.length ≤ ds.length) (hf' : ds.length ≤ cs.size) :
    DataR w O (Gk.setAt cs.toList off vs.toList).toArray (Gk.setAt ds off new) := by
  intro j g hj
  rw [setAt_get hf] at hj
  have e : (Gk.setAt cs.toList off vs.toList).toArray[j]? = if off ≤ j ∧ j < off + new.length then vs[j - off]? else cs[j]? := by
    rw [List.getElem?_toArray, setAt_get (by simp; omega)]
    simp [hl]
  rw [e]
  by_cases h1 : off ≤ j ∧ j < off + new.length
  · rw [if_pos h1] at hj ⊢; exact hn _ g hj
  · rw [if_neg h1] at hj ⊢; exact hc j g hj

/-- A store into a row. -/
theorem eo_storeRow (hΓ : TOK P Γ) {t tb : TypeId} {x y : Operand} {i : TI} {id off sz n : Nat} {ds nd : List D} {new : List G} (hi : Γ t = some i) (hx : fr.ev x = some (.ptr id off)) (ho : hp[id]? = some (.row tb sz n ds)) (hy : fr.ev y = some g) (hg : cellsG g = some new) (hnd : toDs new = some nd)
    (hsz : Nat.beq new.length i.size = true) (hfit : off + nd.length ≤ ds.length) (hF : F ≤ hp.length)
    (k : EO P F N ops rest Q fr (hp.set id (.row tb sz n (setAt ds off nd)))) : EO P F N ops (⟨none, .store t x y, ty, pos, after, none⟩ :: rest) Q fr hp := by
  refine eo_u hF (fun Z w M a hr => ?_) k
  have hvx := hr.ev hx
  have hnew := toDs_eq hnd
  have h1 : new.all G.one = true := by rw [hnew]; simp [G.one]
  have hvy := cells_ok (hr.ev hy) hg h1
  have hnl : nd.length = new.length := by rw [hnew]; simp
  have hvd : DataR w (ownZ Z hp M) (a.eval y).cells nd := fun j dd hj => by
    obtain ⟨v, e1, e2, e3⟩ := hvy.2 j (.d dd) (by rw [hnew, List.getElem?_map, hj]; rfl)
    cases e3 with
    | d h => exact ⟨v, e1, h⟩
  simp only [execOp]
  generalize a.eval x = vx at hvx
  cases hvx with
  | ptr hM =>
    rename_i b c
    obtain ⟨hdl, cs, hb, hcl, hnc, hcm, hcr⟩ := hr.heap.obj id _ _ ho hM
    have hle : ds.length ≤ cs.size := by rw [hdl, hcl]; exact Nat.mul_le_mul_right _ hnc
    have hvl : (a.eval y).cells.toList.length = nd.length := by simp [hvy.1, hnl]
    obtain ⟨w', r1, r2, r3⟩ := write_ok (P := P) (o' := .row tb sz n (setAt ds off nd)) hr.heap ho rfl hM hb (off := off) (vs := (a.eval y).cells.toList) (by rw [hvl]; omega) (fun v hv => by
        obtain ⟨j, hj⟩ := List.getElem?_of_mem hv
        have hlt : j < new.length := by rw [← hnl, ← hvl]; exact (List.getElem?_eq_some_iff.1 hj).1
        obtain ⟨u, e1, e2, _⟩ := hvy.2 j _ (List.getElem?_eq_getElem hlt)
        have : some v = some u := by rw [← e1, ← hj]; simp
        cases this; exact e2)
      (fun w' hst hh => ⟨by rw [setAt_length hfit]; exact hdl, _, hh, by simp [setAt_length (show off + (a.eval y).cells.toList.length ≤ cs.toList.length by rw [hvl]; simp; omega), hcl], hnc, hcm, DataR.setAt
        (fun j g hj => let ⟨v, e1, e2⟩ := hcr j g hj; ⟨v, e1, e2.step hst⟩) (fun j g hj => let ⟨v, e1, e2⟩ := hvd j g hj; ⟨v, e1, e2.step hst⟩) (by rw [hvy.1, hnl]) hfit hle⟩) rfl
    refine ⟨w', M, ?_, r2, r3, ⟨by rw [hr.heap.len]; exact Nat.le_refl _, fun _ _ => rfl⟩⟩
    have hs := run_size' (P := P) (w := w) hΓ hi
    have : (a.eval y).cells.size = i.size := by rw [hvy.1]; exact Nat.eq_of_beq_eq_true hsz
    simp [Instr.storeAt, Instr.sureAddr, storeVar, hs, this, r1]

/-- So many rounds of a loop at most. -/
def ER (P : Program) (F N : Nat) (c : Code) (Q : GPost) : Nat → Fr → List Ob → Prop
  | 0, _, _ => False
  | n + 1, fr, hp => EW P F N c (GThen (ER P F N c Q n) Q) fr hp

theorem ew_rounds {c : Code} (n : Nat) (h : ER P F N c Q n fr hp) : EW P F N (.loop c) Q fr hp := by
  intro Z w0 O0 M0 w M a hs ha hr
  refine wp_loop_ghost (fun n a w => ∃ fr hp M, ER P F N c Q n fr hp ∧ Stp w0 O0 w (own hp M) ∧ Agr F M0 M ∧ Rel Z hp M w fr a N) n ⟨fr, hp, M, h, hs, ha, hr⟩ ?_
  rintro n a w ⟨fr, hp, M, hI, hs, ha, hr⟩
  cases n with
  | zero => exact hI.elim
  | succ n =>
    refine wp_mono (hI Z w0 O0 M0 w M a hs ha hr) ?_
    rintro e a w ⟨fr, hp, M, hq, r1, r2, r3⟩
    cases e with
    | normal => exact ⟨n, Nat.lt_succ_self n, fr, hp, M, hq, r2, r3, r1⟩
    | _ => exact ⟨fr, hp, M, hq, r1, r2, r3⟩
theorem er_succ {c : Code} {n : Nat} (h : EW P F N c (GThen (ER P F N c Q n) Q) fr hp) : ER P F N c Q (n + 1) fr hp := h

/-! ### Inside regions that draw -/
variable {QF : Fr → Prop}
theorem op_elem (hΓ : TOK P Γ) {t e : TypeId} {i1 i2 : TI} {x y : Operand} {n : Nat} {xs ys : List D} {kd : IntKind} {k : Int} (i : Nat) (h1 : Γ t = some i1) (h1' : i1.desc = .slice e) (h2 : Γ e = some i2) (hx : fr.ev x = some (.d (.ro n xs)))
    (hy : fr.ev y = some (.d (.v (.int kd k)))) (hk : k = (i : Int)) (hi : i < n) (hys : ∀ j d, ys[j]? = some d → xs[i * i2.size + j]? = some d) :
    OpP P N ⟨some d, .indexAddr t x y, ty, pos, after, gd⟩ fr hp (.rp ys) := fun Z w M a hr => by
  obtain ⟨u1, _⟩ := hΓ t _ h1
  rw [h1'] at u1
  have hs := run_size' (P := P) (w := w) hΓ h2
  have hvx := hr.ev hx
  simp only [execOp, hr.ev_v hy]
  generalize a.eval x = vx at hvx
  subst hk
  cases hvx with
  | d hd =>
    cases hd with
    | nil => omega
    | ro _ _ b off cap vs hb hO hn hm hc hv =>
      refine ⟨.pointer (some ⟨b, off + i * i2.size, none⟩), ?_, .rp (fun j => vs (i * i2.size + j)) hb hO (fun j d hd => ?_) (fun j d hd => hv _ _ (hys j d hd))⟩
      · have : (0 : Int) ≤ (i : Int) ∧ (i : Int) < (n : Int) := by omega
        simp [Instr.indexAt, asIntOf, run_underlying u1, hs, this, Addr.add_lit, hi]
      · rw [Nat.add_assoc]
        exact hc _ _ (hys j d hd)
theorem gl_elem (hΓ : TOK P Γ) {t e : TypeId} {i1 i2 : TI} {x y : Operand} {n : Nat} {xs ys : List D} {kd : IntKind} {k : Int} (i : Nat) (h1 : Γ t = some i1) (h1' : i1.desc = .slice e) (h2 : Γ e = some i2)
    (hx : (fr.only (Oper.looksAt ops ⟨some d, .indexAddr t x y, ty, pos, after, none⟩)).ev x = some (.d (.ro n xs))) (hy : (fr.only (Oper.looksAt ops ⟨some d, .indexAddr t x y, ty, pos, after, none⟩)).ev y = some (.d (.v (.int kd k)))) (hk : k = (i : Int)) (hi : i < n)
    (hys : ∀ j d, ys[j]? = some d → xs[i * i2.size + j]? = some d) (hd : Nat.blt d N = true) (kk : GL P N hp ops QF rest ((d, .rp ys) :: fr)) : GL P N hp ops QF (⟨some d, .indexAddr t x y, ty, pos, after, none⟩ :: rest) fr :=
  gl_q hd (.inl rfl) (qt_p (op_elem hΓ i h1 h1' h2 hx hy hk hi hys)) kk
theorem gl_elemg (hΓ : TOK P Γ) {t e : TypeId} {i1 i2 : TI} {x y : Operand} {n : Nat} {xs ys : List D} {kd : IntKind} {k : Int} {j : Nat} {want : Bool} (i : Nat) (hg : fr.guard ops j want = some true) (h1 : Γ t = some i1) (h1' : i1.desc = .slice e) (h2 : Γ e = some i2)
    (hx : (fr.only (Oper.looksAt ops ⟨some d, .indexAddr t x y, ty, pos, after, some (j, want)⟩)).ev x = some (.d (.ro n xs))) (hy : (fr.only (Oper.looksAt ops ⟨some d, .indexAddr t x y, ty, pos, after, some (j, want)⟩)).ev y = some (.d (.v (.int kd k)))) (hk : k = (i : Int)) (hi : i < n)
    (hys : ∀ j d, ys[j]? = some d → xs[i * i2.size + j]? = some d) (hd : Nat.blt d N = true) (kk : GL P N hp ops QF rest ((d, .rp ys) :: fr)) : GL P N hp ops QF (⟨some d, .indexAddr t x y, ty, pos, after, some (j, want)⟩ :: rest) fr :=
  gl_q hd (.inr ⟨j, want, rfl, hg⟩) (qt_p (op_elem hΓ i h1 h1' h2 hx hy hk hi hys)) kk

/-! ### Lists of rows -/
/-- Element number i of a flat list. -/
theorem flat_elem {α : Type} {enc : α → List D} {sz : Nat} : ∀ {l : List α} {i : Nat} {x : α}, (∀ y ∈ l, (enc y).length = sz) → l[i]? = some x → ∀ j d, (enc x)[j]? = some d → (l.flatMap enc)[i * sz + j]? = some d
  | [], i, x, _, h, _, _, _ => by simp at h
  | y :: l, 0, x, hs, h, j, d, hd => by
    simp at h
    subst h
    rw [List.flatMap_cons, Nat.zero_mul, Nat.zero_add, List.getElem?_append_left (List.getElem?_eq_some_iff.1 hd).1]
    exact hd
  | y :: l, i + 1, x, hs, h, j, d, hd => by
    rw [List.flatMap_cons, List.getElem?_append_right (by rw [hs y List.mem_cons_self, Nat.add_mul]; omega), hs y List.mem_cons_self]
    have e : (i + 1) * sz + j - sz = i * sz + j := by rw [Nat.add_mul]; omega
    rw [e]
    exact flat_elem (fun z hz => hs z (List.mem_cons_of_mem _ hz)) (by simpa using h) j d hd
theorem flat_length {α : Type} {enc : α → List D} {sz : Nat} : ∀ {l : List α}, (∀ y ∈ l, (enc y).length = sz) → (l.flatMap enc).length = l.length * sz
  | [], _ => by simp
  | y :: l, hs => by
    rw [List.flatMap_cons, List.length_append, hs y List.mem_cons_self, flat_length fun z hz => hs z (List.mem_cons_of_mem _ hz)]
    simp [Nat.add_mul]; omega
end
/-- A list of values of one kind, as a slice. -/
abbrev Sl {α : Type} (enc : α → List D) (l : List α) : D := .ro l.length (l.flatMap enc)
end Go.Gk
