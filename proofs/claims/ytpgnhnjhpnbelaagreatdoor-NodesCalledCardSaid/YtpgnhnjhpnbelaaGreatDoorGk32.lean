/-
  THE GHOST LOGIC, PART 32: stores into rows, in regions that draw and turn objects.
-/
import Derived.Test.YtpgnhnjhpnbelaaGreatDoorGk31
set_option linter.unusedVariables false
set_option linter.unusedSimpArgs false
namespace Go.Gk
section
variable {P : Program} {Γ : TypeId → Option TI} {F N : Nat} {Q : GPost} {fr fr' : Fr} {hp hp' : List Ob} {ks : List Kt}
variable {α : Type} {enc : α → List D} {ops : Array Oper} {rest : List Oper} {g : G}
variable {d : Tmp} {op : Op} {ty : TypeId} {pos : String} {after : Array Edge} {gd' : Option (Nat × Bool)}
theorem opu_storeRow (hΓ : TOK P Γ) {t tb : TypeId} {x y : Operand} {i : TI} {id off sz n : Nat} {ds nd : List D} {new : List G} (hi : Γ t = some i) (hx : fr.ev x = some (.ptr id off)) (ho : hp[id]? = some (.row tb sz n ds)) (hy : fr.ev y = some g) (hg : cellsG g = some new) (hnd : toDs new = some nd)
    (hsz : Nat.beq new.length i.size = true) (hfit : off + nd.length ≤ ds.length) :
    OpU P N ⟨none, .store t x y, ty, pos, after, gd'⟩ fr hp (hp.set id (.row tb sz n (setAt ds off nd))) := fun Z w M a hr => by
  have hvx := hr.ev hx
  have hnew := toDs_eq hnd
  have h1 : new.all G.one = true := by rw [hnew]; simp [G.one]
  have hvy := cells_ok (hr.ev hy) hg h1
  have hnl : nd.length = new.length := by rw [hnew]; simp
  have hvd : DataR w (ownZ Z hp M) (a.eval y).cells nd := fun j dd hj => by
    obtain ⟨v, e1, e2, e3⟩ := hvy.2 j (.d dd) (by rw [hnew, List.getElem?_map, hj]; rfl)
    cases e3 with
    | d h => exact ⟨v, e1, h⟩
  simp only [execOp]
  generalize a.eval x = vx at hvx
  cases hvx with
  | ptr hM =>
    rename_i b c
    obtain ⟨hdl, cs, hb, hcl, hnc, hcm, hcr⟩ := hr.heap.obj id _ _ ho hM
    have hle : ds.length ≤ cs.size := by rw [hdl, hcl]; exact Nat.mul_le_mul_right _ hnc
    have hvl : (a.eval y).cells.toList.length = nd.length := by simp [hvy.1, hnl]
    obtain ⟨w', r1, r2, r3⟩ := write_ok (P := P) (o' := .row tb sz n (setAt ds off nd)) hr.heap ho rfl hM hb (off := off) (vs := (a.eval y).cells.toList) (by rw [hvl]; omega) (fun v hv => by
        obtain ⟨j, hj⟩ := List.getElem?_of_mem hv
        have hlt : j < new.length := by rw [← hnl, ← hvl]; exact (List.getElem?_eq_some_iff.1 hj).1
        obtain ⟨u, e1, e2, _⟩ := hvy.2 j _ (List.getElem?_eq_getElem hlt)
        have : some v = some u := by rw [← e1, ← hj]; simp
        cases this; exact e2)
      (fun w' hst hh => ⟨by rw [setAt_length hfit]; exact hdl, _, hh, by simp [setAt_length (show off + (a.eval y).cells.toList.length ≤ cs.toList.length by rw [hvl]; simp; omega), hcl], hnc, hcm, DataR.setAt
        (fun j g hj => let ⟨v, e1, e2⟩ := hcr j g hj; ⟨v, e1, e2.step hst⟩) (fun j g hj => let ⟨v, e1, e2⟩ := hvd j g hj; ⟨v, e1, e2.step hst⟩) (by rw [hvy.1, hnl]) hfit hle⟩) rfl
    refine ⟨w', M, ?_, r2, r3, ⟨by rw [hr.heap.len]; exact Nat.le_refl _, fun _ _ => rfl⟩⟩
    have hs := run_size' (P := P) (w := w) hΓ hi
    have : (a.eval y).cells.size = i.size := by rw [hvy.1]; exact Nat.eq_of_beq_eq_true hsz
    simp [Instr.storeAt, Instr.sureAddr, storeVar, hs, this, r1]


/-- An element of a row, set anew. -/
theorem opu_setRowZ (hΓ : TOK P Γ) {t tb : TypeId} {x y : Operand} {i : TI} {id off sz : Nat} {l : List α} {z' : α} {new : List G} {hp2 : List Ob} (j : Nat) (hlt : j < l.length) (hi : Γ t = some i) (hx : fr.ev x = some (.ptr id off)) (hoff : off = j * sz) (ho : hp[id]? = some (.row tb sz l.length (l.flatMap enc)))
    (henc : ∀ y, (enc y).length = sz) (hy : fr.ev y = some g) (hg : cellsG g = some new) (hnd : toDs new = some (enc z'))
    (hsz : Nat.beq new.length i.size = true) (hhp : hp.set id (.row tb sz (l.set j z').length ((l.set j z').flatMap enc)) = hp2) : OpU P N ⟨none, .store t x y, ty, pos, after, gd'⟩ fr hp hp2 := by
  subst hhp
  have hfl := flat_len henc l
  have hle : (j + 1) * sz ≤ l.length * sz := Nat.mul_le_mul_right _ hlt
  rw [Nat.add_mul] at hle
  have he : enc z' = setAt (enc l[j]) 0 (enc z') := by
    unfold setAt
    simp [henc]
  have hset := flat_set henc (List.getElem?_eq_getElem hlt) (fo := 0) (by rw [henc]; omega) he
  have := opu_storeRow (P := P) (N := N) (ty := ty) (pos := pos) (after := after) (gd' := gd') hΓ hi hx ho hy hg hnd hsz (by rw [hfl, henc, hoff]; omega)
  rw [Nat.add_zero, ← hoff] at hset
  rw [hset, List.length_set]
  exact this
/-- A slice's length, told otherwise. -/
theorem j_relen {c : Code} (t : Nat) {id n n' : Nat} (h : fr.get t = some (.sl id n)) (e : n = n') (k : St.holds P F N Q (.code c ks) ((t, .sl id n') :: fr) hp) : St.holds P F N Q (.code c ks) fr hp := by
  subst e
  refine ew_inc (fun t' g hg => ?_) k
  rw [Fr.get_cons] at hg
  by_cases ht : t = t'
  · subst ht
    simp at hg
    subst hg
    exact h
  · simpa [ht] using hg
end
end Go.Gk
