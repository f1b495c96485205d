/-
  THE GHOST LOGIC, PART 68: rows that begin behind their block's start: s = s[1:], appended to later.
-/
import Derived.Test.YtfnjahjbpaoepaaGreatDoorGk49
set_option linter.unusedVariables false
set_option linter.unusedSimpArgs false
set_option linter.unusedSectionVars false
namespace Go.Gk
section
variable {P : Program} {Γ : TypeId → Option TI} {F N : Nat} {Q : GPost} {fr fr' : Fr} {hp hp' : List Ob} {ks : List Kt}
variable {α : Type} {enc : α → List D} {ops : Array Oper} {rest : List Oper} {g : G}
variable {d : Tmp} {op : Op} {ty : TypeId} {pos : String} {after : Array Edge} {gd' : Option (Nat × Bool)}
theorem op_elemRowV (hΓ : TOK P Γ) {t e : TypeId} {i1 i2 : TI} {x y : Operand} {id n : Nat} {l : List α} {z : α} {kd : IntKind} {k : Int} (hz : getZ l k = some z) (h1 : Γ t = some i1) (h1' : i1.desc = .slice e) (h2 : Γ e = some i2) (hx : fr.ev x = some (.sv id n)) (hn : n = l.length)
    (hy : fr.ev y = some (.d (.v (.int kd k)))) : OpP P N ⟨some d, .indexAddr t x y, ty, pos, after, gd'⟩ fr hp (.pv id (k.toNat * i2.size)) := fun Z w M a hr => by
  obtain ⟨i, rfl, hi, hz'⟩ := getZ_ok hz
  obtain ⟨u1, _⟩ := hΓ t _ h1
  rw [h1'] at u1
  have hs := run_size' (P := P) (w := w) hΓ h2
  have hvx := hr.ev hx
  simp only [execOp, hr.ev_v hy]
  generalize a.eval x = vx at hvx
  cases hvx with
  | svnil hM => rw [← hn] at hi; omega
  | sv hM hnc hm =>
    rename_i b c
    refine ⟨.pointer (some ⟨b, voff c + i * i2.size, none⟩), ?_, .pv hM⟩
    have hin : i < n := by omega
    have : (0 : Int) ≤ (i : Int) ∧ (i : Int) < (n : Int) := by omega
    simp [Instr.indexAt, asIntOf, run_underlying u1, hs, this, Addr.add_lit, hin]
theorem op_loadRowV0 (hΓ : TOK P Γ) {t tb : TypeId} {i : TI} {x : Operand} {id off sz n : Nat} {ds ys : List D} (hi : Γ t = some i) (hx : fr.ev x = some (.pv id off)) (ho : hp[id]? = some (.rowv tb sz n ds)) (hys : ∀ j d, ys[j]? = some d → ds[off + j]? = some d)
    (hg : loadD i ys 0 = some g) : OpP P N ⟨some d, .load t x, ty, pos, after, gd'⟩ fr hp g := fun Z w M a hr => by
  have hvx := hr.ev hx
  simp only [execOp]
  generalize a.eval x = vx at hvx
  cases hvx with
  | pv hM =>
    rename_i b c
    obtain ⟨_, cs, hb, _, _, _, hcr⟩ := hr.heap.obj id _ _ ho hM
    obtain ⟨hu, _⟩ := hΓ t i hi
    rw [loadD_eq] at hg
    have hcell : ∀ (j : Nat) (d : D), ys[j]? = some d → ∃ v, w.cell? ⟨b, voff c + off + j, none⟩ = some v ∧ VD w (ownZ Z hp M) d v := fun j d hj => by
      obtain ⟨v, e1, e2⟩ := hcr _ d (hys j d hj)
      exact ⟨v, by rw [cell_of_row w b _ cs _ _ hb, Nat.add_assoc]; exact e1, e2⟩
    unfold loadG at hg
    cases hb' : TypeDesc.isAgg i.desc with
    | true =>
      rw [hb'] at hg
      cases hn : Nat.ble (0 + i.size) (ys.map G.d).length with
      | false => rw [hn] at hg; cases hg
      | true =>
        rw [hn] at hg
        cases hg
        have hle : i.size ≤ ys.length := by have := Nat.le_of_ble_eq_true hn; simpa using this
        have hin : ∀ j, (hj : j < i.size) → ys[j]? = some (ys[j]'(by omega)) := fun j hj => List.getElem?_eq_getElem (by omega)
        have hrun := run_loadCells (P := P) w ⟨b, voff c + off, none⟩ i.size (fun j => (w.cell? ⟨b, voff c + off + j, none⟩).getD undef) (fun j hj => by
          obtain ⟨v, e1, _⟩ := hcell j _ (hin j hj)
          rw [Addr.add_lit, e1]; rfl)
        refine ⟨_, by simp [Instr.loadAt, Instr.sureAddr, loadVar, run_isAgg' hu, hb', run_size' hΓ hi, hrun]; rfl, ?_⟩
        refine .agg (by simp; omega) fun j g v hg hv' => ?_
        rw [List.getElem?_take] at hg
        split at hg
        · rename_i hj
          simp only [List.drop_zero, List.getElem?_map] at hg
          obtain ⟨d, hd, rfl⟩ := Option.map_eq_some_iff.1 hg
          obtain ⟨u, e1, e2⟩ := hcell j d hd
          have : v = u := by simpa [hj, e1] using hv'.symm
          rw [this]
          exact .d e2
        · cases hg
    | false =>
      rw [hb'] at hg
      have hg' : (ys.map G.d)[0]? = some g := by rw [cond_false, head_drop] at hg; exact hg
      rw [List.getElem?_map] at hg'
      obtain ⟨d, hd, rfl⟩ := Option.map_eq_some_iff.1 hg'
      obtain ⟨u, e1, e2⟩ := hcell 0 d hd
      simp only [Nat.add_zero] at e1
      exact ⟨_, by simp [Instr.loadAt, Instr.sureAddr, loadVar, run_isAgg' hu, hb', e1], .d e2⟩
theorem op_loadRowV (hΓ : TOK P Γ) {t tb : TypeId} {i : TI} {x : Operand} {id off sz n : Nat} {l : List α} {z : α} (j fo : Nat) (hz : l[j]? = some z) (hi : Γ t = some i) (hx : fr.ev x = some (.pv id off)) (hoff : off = j * sz + fo) (ho : hp[id]? = some (.rowv tb sz n (l.flatMap enc))) (henc : ∀ y, (enc y).length = sz)
    (hg : loadD i ((enc z).drop fo) 0 = some g) : OpP P N ⟨some d, .load t x, ty, pos, after, gd'⟩ fr hp g := by
  refine op_loadRowV0 hΓ hi hx ho (fun k dd hd => ?_) hg
  rw [List.getElem?_drop] at hd
  rw [hoff, Nat.add_assoc]
  exact flat_elem (sz := sz) (fun y _ => henc y) hz _ _ hd
theorem opu_storeRowV0 (hΓ : TOK P Γ) {t tb : TypeId} {x y : Operand} {i : TI} {id off sz n : Nat} {ds nd : List D} {new : List G} (hi : Γ t = some i) (hx : fr.ev x = some (.pv id off)) (ho : hp[id]? = some (.rowv tb sz n ds)) (hy : fr.ev y = some g) (hg : cellsG g = some new) (hnd : toDs new = some nd)
    (hsz : Nat.beq new.length i.size = true) (hfit : off + nd.length ≤ ds.length) :
    OpU P N ⟨none, .store t x y, ty, pos, after, gd'⟩ fr hp (hp.set id (.rowv tb sz n (setAt ds off nd))) := fun Z w M a hr => by
  have hvx := hr.ev hx
  have hnew := toDs_eq hnd
  have h1 : new.all G.one = true := by rw [hnew]; simp [G.one]
  have hvy := cells_ok (hr.ev hy) hg h1
  have hnl : nd.length = new.length := by rw [hnew]; simp
  have hvd : DataR w (ownZ Z hp M) (a.eval y).cells nd := fun j dd hj => by
    obtain ⟨v, e1, e2, e3⟩ := hvy.2 j (.d dd) (by rw [hnew, List.getElem?_map, hj]; rfl)
    cases e3 with
    | d h => exact ⟨v, e1, h⟩
  simp only [execOp]
  generalize a.eval x = vx at hvx
  cases hvx with
  | pv hM =>
    rename_i b c
    obtain ⟨hdl, cs, hb, hcl, hnc, hcm, hcr⟩ := hr.heap.obj id _ _ ho hM
    have hmul : n * sz ≤ vcap c * sz := Nat.mul_le_mul_right _ hnc
    have hvl : (a.eval y).cells.toList.length = nd.length := by simp [hvy.1, hnl]
    have hfit2 : voff c + off + (a.eval y).cells.toList.length ≤ cs.toList.length := by
      have e : cs.toList.length = cs.size := by simp
      rw [hvl, e]; omega
    obtain ⟨w', r1, r2, r3⟩ := write_ok (P := P) (o' := .rowv tb sz n (setAt ds off nd)) hr.heap ho rfl hM hb (off := voff c + off) (vs := (a.eval y).cells.toList) (by simpa using hfit2) (fun v hv => by
        obtain ⟨j, hj⟩ := List.getElem?_of_mem hv
        have hlt : j < new.length := by rw [← hnl, ← hvl]; exact (List.getElem?_eq_some_iff.1 hj).1
        obtain ⟨u, e1, e2, _⟩ := hvy.2 j _ (List.getElem?_eq_getElem hlt)
        have : some v = some u := by rw [← e1, ← hj]; simp
        cases this; exact e2)
      (fun w' hst hh => ⟨by rw [setAt_length hfit]; exact hdl, _, hh, by rw [List.size_toArray, setAt_length hfit2, Array.length_toList]; exact hcl, hnc, hcm, fun j dd hj => by
        rw [setAt_get hfit] at hj
        have e : (Gk.setAt cs.toList (voff c + off) (a.eval y).cells.toList).toArray[voff c + j]? = if off ≤ j ∧ j < off + nd.length then (a.eval y).cells[j - off]? else cs[voff c + j]? := by
          rw [List.getElem?_toArray, setAt_get hfit2, hvl]
          by_cases hin : off ≤ j ∧ j < off + nd.length
          · rw [if_pos hin, if_pos (by omega), show voff c + j - (voff c + off) = j - off by omega]; simp
          · rw [if_neg hin, if_neg (by omega)]; simp
        rw [e]
        split at hj
        · rename_i hin
          rw [if_pos hin]
          obtain ⟨v, f1, f2⟩ := hvd _ dd hj
          exact ⟨v, f1, f2.step hst⟩
        · rename_i hin
          rw [if_neg hin]
          obtain ⟨v, f1, f2⟩ := hcr _ dd hj
          exact ⟨v, f1, f2.step hst⟩⟩) rfl
    refine ⟨w', M, ?_, r2, r3, ⟨by rw [hr.heap.len]; exact Nat.le_refl _, fun _ _ => rfl⟩⟩
    have hs := run_size' (P := P) (w := w) hΓ hi
    have : (a.eval y).cells.size = i.size := by rw [hvy.1]; exact Nat.eq_of_beq_eq_true hsz
    simp [Instr.storeAt, Instr.sureAddr, storeVar, hs, this, r1]
/-- A part of an element, set anew. -/
theorem opu_storeRowV (hΓ : TOK P Γ) {t tb : TypeId} {x y : Operand} {i : TI} {id off sz : Nat} {l : List α} {z z' : α} {nd : List D} {new : List G} {hp2 : List Ob} (j fo : Nat) (hz : l[j]? = some z) (hi : Γ t = some i) (hx : fr.ev x = some (.pv id off)) (hoff : off = j * sz + fo) (ho : hp[id]? = some (.rowv tb sz l.length (l.flatMap enc)))
    (henc : ∀ y, (enc y).length = sz) (hy : fr.ev y = some g) (hg : cellsG g = some new) (hnd : toDs new = some nd) (he : enc z' = setAt (enc z) fo nd)
    (hsz : Nat.beq new.length i.size = true) (hfit : Nat.ble (fo + nd.length) sz = true) (hhp : hp.set id (.rowv tb sz (l.set j z').length ((l.set j z').flatMap enc)) = hp2) : OpU P N ⟨none, .store t x y, ty, pos, after, gd'⟩ fr hp hp2 := by
  subst hhp
  have hlt := (List.getElem?_eq_some_iff.1 hz).1
  have hf := Nat.le_of_ble_eq_true hfit
  have hfl := flat_len henc l
  have hle : (j + 1) * sz ≤ l.length * sz := Nat.mul_le_mul_right _ hlt
  rw [Nat.add_mul] at hle
  have := opu_storeRowV0 (P := P) (N := N) (ty := ty) (pos := pos) (after := after) (gd' := gd') hΓ hi hx ho hy hg hnd hsz (by rw [hfl, hoff]; omega)
  rw [flat_set henc hz hf he, List.length_set, ← hoff]
  exact this
theorem opu_setRowV (hΓ : TOK P Γ) {t tb : TypeId} {x y : Operand} {i : TI} {id off sz : Nat} {l : List α} {z' : α} {new : List G} {hp2 : List Ob} (j : Nat) (hlt : j < l.length) (hi : Γ t = some i) (hx : fr.ev x = some (.pv id off)) (hoff : off = j * sz) (ho : hp[id]? = some (.rowv tb sz l.length (l.flatMap enc)))
    (henc : ∀ y, (enc y).length = sz) (hy : fr.ev y = some g) (hg : cellsG g = some new) (hnd : toDs new = some (enc z'))
    (hsz : Nat.beq new.length i.size = true) (hhp : hp.set id (.rowv tb sz (l.set j z').length ((l.set j z').flatMap enc)) = hp2) : OpU P N ⟨none, .store t x y, ty, pos, after, gd'⟩ fr hp hp2 := by
  subst hhp
  have hfl := flat_len henc l
  have hle : (j + 1) * sz ≤ l.length * sz := Nat.mul_le_mul_right _ hlt
  rw [Nat.add_mul] at hle
  have he : enc z' = setAt (enc l[j]) 0 (enc z') := by
    unfold setAt
    simp [henc]
  have hset := flat_set henc (List.getElem?_eq_getElem hlt) (fo := 0) (by rw [henc]; omega) he
  have := opu_storeRowV0 (P := P) (N := N) (ty := ty) (pos := pos) (after := after) (gd' := gd') hΓ hi hx ho hy hg hnd hsz (by rw [hfl, henc, hoff]; omega)
  rw [Nat.add_zero, ← hoff] at hset
  rw [hset, List.length_set]
  exact this
theorem eo_storeRowV (hΓ : TOK P Γ) {t tb : TypeId} {x y : Operand} {i : TI} {id off sz : Nat} {l : List α} {z z' : α} {nd : List D} {new : List G} (j fo : Nat) (hz : l[j]? = some z) (hi : Γ t = some i) (hx : fr.ev x = some (.pv id off)) (hoff : off = j * sz + fo) (ho : hp[id]? = some (.rowv tb sz l.length (l.flatMap enc)))
    (henc : ∀ y, (enc y).length = sz) (hy : fr.ev y = some g) (hg : cellsG g = some new) (hnd : toDs new = some nd) (he : enc z' = setAt (enc z) fo nd)
    (hsz : Nat.beq new.length i.size = true) (hfit : Nat.ble (fo + nd.length) sz = true) (hF : F ≤ hp.length)
    (k : EO P F N ops rest Q fr (hp.set id (.rowv tb sz (l.set j z').length ((l.set j z').flatMap enc)))) : EO P F N ops (⟨none, .store t x y, ty, pos, after, none⟩ :: rest) Q fr hp :=
  eo_u hF (opu_storeRowV hΓ j fo hz hi hx hoff ho henc hy hg hnd he hsz hfit rfl) k
theorem j_relenV {c : Code} (t : Nat) {id n n' : Nat} (h : fr.get t = some (.sv id n)) (e : n = n') (k : St.holds P F N Q (.code c ks) ((t, .sv id n') :: fr) hp) : St.holds P F N Q (.code c ks) fr hp := by
  subst e
  refine ew_inc (fun t' g hg => ?_) k
  rw [Fr.get_cons] at hg
  by_cases ht : t = t'
  · subst ht
    simp at hg
    subst hg
    exact h
  · simpa [ht] using hg
theorem eo_relenV {l : List Oper} (t : Nat) {id n n' : Nat} (h : fr.get t = some (.sv id n)) (e : n = n') (k : EO P F N ops l Q ((t, .sv id n') :: fr) hp) : EO P F N ops l Q fr hp := by
  subst e
  intro Z w0 O0 M0 w M a hs ha hr
  refine k Z w0 O0 M0 w M a hs ha ⟨hr.heap, fun t' g hg => ?_, hr.size, hr.defers⟩
  rw [Fr.get_cons] at hg
  by_cases ht : t = t'
  · subst ht
    simp at hg
    subst hg
    exact hr.fr t _ h
  · exact hr.fr t' g (by simpa [ht] using hg)
/-- A view of such a row, from a place on. -/
theorem op_viewV (hΓ : TOK P Γ) {t e : TypeId} {i1 i2 : TI} {x : Operand} {lo : Option Operand} {n id : Nat} {a : Int} {l r : List α} (hz : subZ l a (l.length : Int) = some r) (h1 : Γ t = some i1) (h1' : i1.desc = .slice e) (h2 : Γ e = some i2) (hx : fr.ev x = some (.sv id n)) (hn : n = l.length) (hlo : fr.bound lo 0 = some a) :
    OpP P N ⟨some d, .slice t x lo none none, ty, pos, after, gd'⟩ fr hp (.svo id (a.toNat * i2.size) r.length) := fun Z w M ac hr => by
  obtain ⟨u1, _⟩ := hΓ t _ h1
  rw [h1'] at u1
  have hs := run_size' (P := P) (w := w) hΓ h2
  obtain ⟨a', b', ea, eb, e1, e2, rfl⟩ := subZ_ok hz
  subst ea
  obtain rfl : b' = l.length := by omega
  have hrl : ((l.take l.length).drop a').length = l.length - a' := by simp
  rw [hrl, Int.toNat_natCast]
  have hvx := hr.ev hx
  simp only [execOp, Option.map_none]
  generalize ac.eval x = vx at hvx
  cases hvx with
  | svnil hM =>
    have h0 : l.length = 0 := hn.symm
    have ha0 : a' = 0 := by omega
    subst ha0
    have hb : (Instr.sliceBounds true 0 0 (lo.map ac.eval) none none).run P w = .ok (0, 0, 0) w := run_bounds (P := P) (w := w) hr (b := true) (l := 0) (len := 0) (cap := 0) (hi := none) hlo rfl (Nat.le_refl _) (Nat.le_refl _)
    rw [h0]
    exact ⟨.slice none 0 0, by simp [Instr.sliceAt, Instr.slice, run_underlying u1, hb, hs], .svonil hM⟩
  | sv hM hnc hm =>
    rename_i b c
    subst hn
    have hb : (Instr.sliceBounds true l.length (vcap c) (lo.map ac.eval) none none).run P w = .ok (a', l.length, vcap c) w := run_bounds (P := P) (w := w) hr (b := true) (l := a') (len := l.length) (cap := vcap c) (hi := none) hlo rfl e1 hnc
    refine ⟨.slice (some ⟨b, if vcap c = a' then voff c else voff c + a' * i2.size, none⟩) (l.length - a') (vcap c - a'), ?_, .svo hM ?_ (by omega)⟩
    · by_cases hc : vcap c = a'
      · rw [hc] at hb ⊢; simp [Instr.sliceAt, Instr.slice, run_underlying u1, hb, hs]
      · simp [Instr.sliceAt, Instr.slice, run_underlying u1, hb, hs, hc, Addr.add_lit]; try omega
    · by_cases hc : vcap c = a'
      · exact .inl (by omega)
      · exact .inr (by rw [if_neg hc])
theorem ops_clearV0 (hΓ : TOK P Γ) {t te : TypeId} {i1 i2 : TI} {x : Operand} {id o n : Nat} {ds : List D} (h1 : Γ t = some i1) (h1' : i1.desc = .slice te) (h2 : Γ te = some i2) (hz : Nat.beq i2.zero.cells.size i2.size = true) (hz1 : (i2.zero.cells.toList.all (·.oneCell')) = true)
    (hx : fr.ev x = some (.svo id (o * i2.size) n)) (ho : hp[id]? = some (.rowv te i2.size (o + n) ds)) :
    OpS P N ⟨none, .call ⟨.builtin .clear, #[x], #[t]⟩, ty, pos, after, gd'⟩ fr hp (.tup []) (hp.set id (.rowv te i2.size o (ds.take (o * i2.size)))) := by
  intro Z w M a hr
  obtain ⟨u1, _⟩ := hΓ t _ h1
  rw [h1'] at u1
  obtain ⟨_, inf, e1, e2, e3, e4⟩ := hΓ te _ h2
  have hid : id < hp.length := (List.getElem?_eq_some_iff.1 ho).1
  have hzs : i2.zero.cells.size = i2.size := Nat.eq_of_beq_eq_true hz
  have hvx := hr.ev hx
  have hag : Agr hp.length M M := ⟨Nat.le_of_eq hr.heap.len.symm, fun _ _ => rfl⟩
  have htup : ∀ (w' : World) (O : Ow), VR w' O M (.tup []) (.tuple #[]) := fun w' O => .tup rfl fun j g v h => by simp at h
  generalize hvv : a.eval x = vx at hvx
  cases hvx with
  | svonil hM =>
    have hob := hr.heap.obj id _ _ ho hM
    obtain ⟨hd, h0⟩ := hob
    obtain rfl : o = 0 := by omega
    subst hd
    have hset : hp.set id (.rowv te i2.size 0 (([] : List D).take (0 * i2.size))) = hp := by
      simp only [List.take_nil]
      apply List.ext_getElem?
      intro j
      by_cases hj : j = id
      · subst hj; rw [List.getElem?_set_self hid, ho]
      · rw [List.getElem?_set_ne (Ne.symm hj)]
    rw [hset]
    exact ⟨.tuple #[], w, M, by simp [execOp, resolve, invoke, builtin, hvv, Builtin.clear_, run_underlying u1], hr.heap, htup _ _, .refl _ _, hag⟩
  | svo hM hpo hn =>
    rename_i b c p cap
    have hob := hr.heap.obj id _ _ ho hM
    obtain ⟨hdl, cs, hbk, hcs, hnc, hcm', hcr⟩ := hob
    have hvl : (Builtin.zeroCells i2.zero.cells n).toList.length = n * i2.size := by rw [Array.length_toList, size_zeroCells, hzs]
    have hmul : (o + n) * i2.size ≤ vcap c * i2.size := Nat.mul_le_mul_right _ hnc
    rw [Nat.add_mul] at hmul
    have hdl' : (ds.take (o * i2.size)).length = o * i2.size := by rw [List.length_take, hdl, Nat.add_mul]; omega
    have hfit : voff c + o * i2.size + (Builtin.zeroCells i2.zero.cells n).toList.length ≤ cs.toList.length := by rw [hvl, Array.length_toList]; omega
    obtain ⟨w', r1, r2, r3⟩ := write_ok (P := P) (o' := .rowv te i2.size o (ds.take (o * i2.size))) hr.heap ho rfl hM hbk (off := voff c + o * i2.size) (vs := (Builtin.zeroCells i2.zero.cells n).toList) (by simpa using hfit) (zeroCells_one hz1 n)
      (fun w' hst hh => ⟨hdl', _, hh, by rw [List.size_toArray, setAt_length hfit, Array.length_toList]; exact hcs, by omega, hcm', fun j dd hj => by
        have hlt : j < o * i2.size := by rw [← hdl']; exact (List.getElem?_eq_some_iff.1 hj).1
        rw [List.getElem?_take_of_lt hlt] at hj
        obtain ⟨v, f1, f2⟩ := hcr j dd hj
        refine ⟨v, ?_, f2.step hst⟩
        rw [List.getElem?_toArray, setAt_get hfit, if_neg (by omega)]
        simpa using f1⟩) rfl
    refine ⟨.tuple #[], w', M, ?_, r2, htup _ _, r3, hag⟩
    have hzv : (zeroValue te).run P w = .ok i2.zero w := by simp [zeroValue, typeInfo, e1, e4]
    by_cases hn0 : n = 0
    · subst hn0
      have : w' = w := by
        have e : (Builtin.zeroCells i2.zero.cells 0).toList = [] := List.eq_nil_of_length_eq_zero (by rw [hvl]; simp)
        rw [e] at r1
        simp [storeCells] at r1
        exact r1.symm
      subst this
      simp [execOp, resolve, invoke, builtin, hvv, Builtin.clear_, run_underlying u1]
    · obtain ⟨m, rfl⟩ : ∃ m, n = m + 1 := ⟨n - 1, by omega⟩
      rcases hpo with h0 | rfl
      · omega
      · simp [execOp, resolve, invoke, builtin, hvv, Builtin.clear_, run_underlying u1, hzv, r1]
theorem ops_clearV (hΓ : TOK P Γ) {t te : TypeId} {i1 i2 : TI} {x : Operand} {id k n : Nat} {l r : List α} {a : Int} (hz : subZ l a (l.length : Int) = some r) (h1 : Γ t = some i1) (h1' : i1.desc = .slice te) (h2 : Γ te = some i2) (hzc : Nat.beq i2.zero.cells.size i2.size = true) (hz1 : (i2.zero.cells.toList.all (·.oneCell')) = true)
    (hx : fr.ev x = some (.svo id k n)) (hk : k = a.toNat * i2.size) (hn : n = r.length) (ho : hp[id]? = some (.rowv te i2.size l.length (l.flatMap enc))) (henc : ∀ y, (enc y).length = i2.size) :
    OpS P N ⟨none, .call ⟨.builtin .clear, #[x], #[t]⟩, ty, pos, after, gd'⟩ fr hp (.tup []) (hp.set id (.rowv te i2.size (l.take a.toNat).length ((l.take a.toNat).flatMap enc))) := by
  subst hn; subst hk
  obtain ⟨a', b', ea, eb, e1, e2, rfl⟩ := subZ_ok hz
  subst ea
  obtain rfl : b' = l.length := by omega
  rw [Int.toNat_natCast] at hx ⊢
  have hrl : ((l.take l.length).drop a').length = l.length - a' := by simp
  rw [hrl] at hx
  have := ops_clearV0 (P := P) (N := N) (ty := ty) (pos := pos) (after := after) (gd' := gd') hΓ h1 h1' h2 hzc hz1 hx (by rw [ho]; congr 2; omega)
  rw [flat_take henc, show (l.take a').length = a' by simp; omega]
  exact this
/-- The first part of such a row whose end is let go. -/
theorem eo_subCutV (hΓ : TOK P Γ) {t e : TypeId} {i1 i2 : TI} {x : Operand} {lo hi : Option Operand} {n id : Nat} {l r : List α} {a : Int} (hz : subZ l a (l.length : Int) = some r) (h1 : Γ t = some i1) (h1' : i1.desc = .slice e) (h2 : Γ e = some i2) (hx : fr.ev x = some (.sv id n)) (hn : n = l.length) (hlo : fr.bound lo 0 = some (0 : Int)) (hhi : fr.bound hi n = some a)
    (hd : Nat.blt d N = true) (k : EO P F N ops rest Q ((d, .sv id (l.take a.toNat).length) :: fr) hp) : EO P F N ops (⟨some d, .slice t x lo hi none, ty, pos, after, none⟩ :: rest) Q fr hp := by
  obtain ⟨h, b', ea, eb, e1, e2, rfl⟩ := subZ_ok hz
  subst ea; subst hn
  rw [Int.toNat_natCast, show (l.take h).length = h by simp; omega] at k
  have hh : h ≤ l.length := by omega
  refine eo_p hd (fun Z w M a hr => ?_) k
  obtain ⟨u1, _⟩ := hΓ t _ h1
  rw [h1'] at u1
  have hs := run_size' (P := P) (w := w) hΓ h2
  have hvx := hr.ev hx
  simp only [execOp, Option.map_none]
  generalize a.eval x = vx at hvx
  generalize hll : l.length = n at hvx hhi hh
  cases hvx with
  | svnil hM =>
    have hh0 : h = 0 := by omega
    subst hh0
    have hb := run_bounds (P := P) (w := w) hr (b := true) (l := 0) (len := 0) (cap := 0) hlo hhi (Nat.le_refl _) (Nat.le_refl _)
    exact ⟨.slice none 0 0, by simp [Instr.sliceAt, Instr.slice, run_underlying u1, hb, hs], .svnil hM⟩
  | sv hM hn hm =>
    rename_i b c
    have hb := run_bounds (P := P) (w := w) hr (b := true) (l := 0) (len := n) (cap := vcap c) hlo hhi (Nat.zero_le _) (by omega)
    refine ⟨.slice (some ⟨b, voff c, none⟩) h (vcap c), ?_, .sv hM (by omega) hm⟩
    by_cases hc : vcap c = 0
    · rw [hc] at hb ⊢; simp [Instr.sliceAt, Instr.slice, run_underlying u1, hb, hs]
    · simp [Instr.sliceAt, Instr.slice, run_underlying u1, hb, hs, hc, Addr.add_lit]
/-- A heap with one more object that lies nowhere. -/
theorem heap_nilOb {Z : Env} {w : World} {M : Mp} (ob : Ob) (hob0 : ∀ w O M, ObR w O M ob none) (hog : ob.isBag = false) (hr : RelH Z hp M w) :
    RelH Z (hp ++ [ob]) (M.app [none]) w ∧ Stp w (own hp M) w (own (hp ++ [ob]) (M.app [none])) ∧ Agr hp.length M (M.app [none]) := by
  have hM : ∀ i, i < M.l.length → (M.app [none]).l[i]? = M.l[i]? := fun i hi => List.getElem?_append_left hi
  have hob : ∀ b, obOwn (hp ++ [ob]) (M.app [none]) b → obOwn hp M b := by
    rintro b ⟨i, o, c, h1, h2, h3⟩
    rcases getq_snoc h3 with ⟨hi, h4⟩ | ⟨hi, h4⟩
    · rw [List.getElem?_append_left (by rw [← hr.len]; exact hi)] at h1
      exact ⟨i, o, c, h1, h2, h4⟩
    · cases h4
  have hown : ∀ b, own (hp ++ [ob]) (M.app [none]) b → own hp M b := fun b h => own_imp h (hob b) (fun g => g.of (bag_snoc hog)) rfl
  have hst : Stp w (own hp M) w (own (hp ++ [ob]) (M.app [none])) := .still (fun b _ h => hown b h) rfl fun g => g.of (bag_snoc hog)
  refine ⟨⟨by simp [hr.len], fun i o m h1 h2 => ?_, fun b hb hz => hr.apart b (hown b hb) hz, hr.old, hr.amb, fun i j oi oj b c c' hi hj li lj mi mj => ?_, hr.bags.mono rfl (Nat.le_refl _) (fun b _ => hob b) (bag_snoc hog)⟩, hst, ⟨by simp [hr.len], fun i hi => hM i (by rw [hr.len]; exact hi)⟩⟩
  · rcases getq_snoc h1 with ⟨hi, h3⟩ | ⟨hi, rfl⟩
    · rw [hM i (by rw [hr.len]; exact hi)] at h2
      have := hr.obj i o m h3 h2
      exact this.move (k := M.l.length) (stp_z Z hst) hM this.bel (fun _ _ _ _ => rfl) (fun _ _ _ _ => ⟨rfl, fun _ _ _ => rfl⟩)
    · subst hi
      rw [← hr.len] at h2
      rcases getq_snoc h2 with ⟨hi, _⟩ | ⟨_, h⟩
      · omega
      · subst h; exact hob0 _ _ _
  · rcases getq_snoc mi with ⟨hi1, hi2⟩ | ⟨_, hi2⟩
    · rcases getq_snoc mj with ⟨hj1, hj2⟩ | ⟨_, hj2⟩
      · rw [List.getElem?_append_left (by rw [← hr.len]; exact hi1)] at hi
        rw [List.getElem?_append_left (by rw [← hr.len]; exact hj1)] at hj
        exact hr.inj i j oi oj b c c' hi hj li lj hi2 hj2
      · cases hj2
    · cases hi2
theorem ops_nilAtV (te : TypeId) (sz k : Nat) {o : Oper} {gs : List G} (h : OpS P N o fr hp (.agg gs) hp') (hk : gs[k]? = some (.d (.v (.slice none 0 0)))) :
    OpS P N o fr hp (.agg (gs.set k (.sv hp'.length 0))) (hp' ++ [.rowv te sz 0 []]) := by
  intro Z w M a hr
  obtain ⟨v, w', M', hrun, h1, h2, h3, h4⟩ := h Z w M a hr
  obtain ⟨k1, k2, k3⟩ := heap_nilOb (.rowv te sz 0 []) (fun _ _ _ => ⟨rfl, rfl⟩) rfl h1
  have hM : ∀ i, i < M'.l.length → (M'.app [none]).l[i]? = M'.l[i]? := fun i hi => List.getElem?_append_left hi
  have hle : hp.length ≤ hp'.length := by rw [← h1.len]; exact h4.le
  refine ⟨v, w', M'.app [none], hrun, k1, ?_, h3.trans k2, h4.trans k3 hle⟩
  cases h2 with
  | agg hl ih =>
    refine .agg (by simpa using hl) fun j g v hg hv => ?_
    by_cases hjk : k = j
    · subst hjk
      have hlt : k < gs.length := (List.getElem?_eq_some_iff.1 hk).1
      rw [List.getElem?_set_self hlt] at hg
      cases hg
      have := ih k _ v hk hv
      rw [vr_v this]
      exact .svnil (by rw [← h1.len]; simp)
    · rw [List.getElem?_set_ne hjk] at hg
      exact (ih j g v hg hv).step (stp_z Z k2) hM
theorem eo_nilOwnV {t : TypeId} (te : TypeId) (sz : Nat) (hd : Nat.blt d N = true) (hF : F ≤ hp.length) (k : EO P F N ops rest Q ((d, .sv hp.length 0) :: fr) (hp ++ [.rowv te sz 0 []])) :
    EO P F N ops (⟨some d, .assign (.const (.slice none 0 0)), ty, pos, after, none⟩ :: rest) Q fr hp := by
  refine eo_s hF (nblt.1 hd) (fun Z w M a hr => ?_) k
  obtain ⟨k1, k2, k3⟩ := heap_nilOb (.rowv te sz 0 []) (fun _ _ _ => ⟨rfl, rfl⟩) rfl hr.heap
  exact ⟨.slice none 0 0, w, M.app [none], rfl, k1, .svnil (by rw [← hr.heap.len]; simp), k2, k3⟩
/-- An object that takes another one's place, under a new name; its block is the old one or a new one. -/
theorem heap_anew {Z : Env} {M : Mp} {w w' : World} (hr : RelH Z hp M w) {id : Nat} {o o' : Ob} {mo mo' : Option (Nat × Nat)} (ho : hp[id]? = some o) (hl : o.live = true) (hM : M.l[id]? = some mo) (hog : o'.isBag = false) (hsz : w.heap.size ≤ w'.heap.size) (hos : w'.os = w.os) (htp : w'.tape = w.tape) (hou : w'.output = w.output)
    (hk : ∀ k, k < w.heap.size → (∀ b c, mo' = some (b, c) → k ≠ b) → w'.heap[k]? = w.heap[k]?) (hblk : ∀ b c', mo' = some (b, c') → (∃ c, mo = some (b, c)) ∨ w.heap.size ≤ b) (ho' : ∀ O', Stp w (ownZ Z hp M) w' O' → ObR w' O' (M.app [mo']) o' mo') :
    RelH Z (hp.set id .dead ++ [o']) (M.app [mo']) w' ∧ Stp w (own hp M) w' (own (hp.set id .dead ++ [o']) (M.app [mo'])) ∧ Agr hp.length M (M.app [mo']) := by
  have hid : id < hp.length := (List.getElem?_eq_some_iff.1 ho).1
  have hMold : ∀ i, i < M.l.length → (M.app [mo']).l[i]? = M.l[i]? := fun i hi => List.getElem?_append_left hi
  have hMnew : (M.app [mo']).l[hp.length]? = some mo' := by rw [← hr.len]; simp
  have hcase : ∀ (i : Nat) (q : Ob), (hp.set id .dead ++ [o'])[i]? = some q → (i < hp.length ∧ i ≠ id ∧ hp[i]? = some q) ∨ (i = id ∧ q = .dead) ∨ (i = hp.length ∧ q = o') := fun i q h => by
    by_cases hi : i < hp.length
    · rw [List.getElem?_append_left (by simpa using hi)] at h
      by_cases hii : i = id
      · subst hii; simp [hid] at h; exact .inr (.inl ⟨rfl, h.symm⟩)
      · rw [List.getElem?_set_ne (Ne.symm hii)] at h; exact .inl ⟨hi, hii, h⟩
    · rw [List.getElem?_append_right (by simp; omega)] at h
      simp only [List.length_set] at h
      have h0 : i - hp.length = 0 := by
        cases hk : i - hp.length with
        | zero => rfl
        | succ k => rw [hk] at h; simp at h
      rw [h0] at h
      simp at h
      exact .inr (.inr ⟨by omega, h.symm⟩)
  have hlive : ∀ (c : Nat) (b : Nat), mo = some (b, c) → obOwn hp M b := fun c b e => ⟨id, _, c, ho, hl, by rw [hM, e]⟩
  have hkeep : ∀ b, b < w.heap.size → ¬ own hp M b → w'.heap[b]? = w.heap[b]? := fun b hb hn => hk b hb fun b' c' e he => by
    subst he
    rcases hblk b c' e with ⟨c, hc⟩ | h
    · exact hn (.inl (hlive c b hc))
    · omega
  have hobo : ∀ b, b < w.heap.size → obOwn (hp.set id .dead ++ [o']) (M.app [mo']) b → obOwn hp M b := by
    rintro b hb ⟨i, q, c, h1, h2, h3⟩
    rcases hcase i q h1 with ⟨e1, e2, e3⟩ | ⟨rfl, rfl⟩ | ⟨rfl, rfl⟩
    · rw [hMold i (by rw [hr.len]; exact e1)] at h3
      exact ⟨i, q, c, e3, h2, h3⟩
    · cases h2
    · rw [hMnew] at h3
      rcases hblk b c (Option.some.inj h3) with ⟨c2, hc⟩ | h
      · exact hlive c2 b hc
      · omega
  have hbg : ∀ (i : Nat) (al : List Bool) (ar : List Ar) (lt : List (Nat × Nat)), (hp.set id .dead ++ [o'])[i]? = some (.bag al ar lt) → hp[i]? = some (.bag al ar lt) := fun i al ar lt h => bag_set rfl i al ar lt (bag_snoc hog i al ar lt h)
  have htags : KeepT hp M w w' := fun x hx hno => hk x.b (hr.bags.tgs x hx).1 fun b' c' e he => by
    rcases hblk b' c' e with ⟨c, hc⟩ | h
    · exact hno (he ▸ hlive c b' hc)
    · have := (hr.bags.tgs x hx).1; omega
  have hst : Stp w (own hp M) w' (own (hp.set id .dead ++ [o']) (M.app [mo'])) := .mk' hsz hkeep (fun b hb h => own_imp h (hobo b hb) (fun g => g.of hbg) rfl) hos htp hou rfl (fun g => g.of hbg) (hr.bags.ht htags)
  have hob' : ∀ i q c b, i ≠ id → hp[i]? = some q → q.live = true → M.l[i]? = some (some (b, c)) → w'.heap[b]? = w.heap[b]? := fun i q c b hi h1 h2 h3 => by
    have hlt := hr.block_ob ⟨i, q, c, h1, h2, h3⟩
    refine hk b hlt fun b' c' e he => ?_
    subst he
    rcases hblk b c' e with ⟨c2, hc⟩ | h
    · exact hi (hr.inj i id q _ b c c2 h1 ho h2 hl h3 (by rw [hM, hc]))
    · omega
  have hnew : ∀ i q b c, i ≠ id → hp[i]? = some q → q.live = true → M.l[i]? = some (some (b, c)) → ∀ c', mo' = some (b, c') → False := fun i q b c hi h1 h2 h3 c' he => by
    have hlt := hr.block_ob ⟨i, q, c, h1, h2, h3⟩
    rcases hblk b c' he with ⟨c3, hc⟩ | h
    · exact hi (hr.inj i id q _ b c c3 h1 ho h2 hl h3 (by rw [hM, hc]))
    · omega
  refine ⟨⟨by simp [hr.len], fun i q m' h1 h2 => ?_, fun b hb hz => ?_, fun b hz => Nat.lt_of_lt_of_le (hr.old b hz) hsz, hr.amb_stp hst, fun i j oi oj b c c' hi hj li lj mi mj => ?_, hr.bags.mono rfl hsz hobo hbg⟩, hst, ⟨by simp [hr.len], fun i hi => hMold i (by rw [hr.len]; exact hi)⟩⟩
  · rcases hcase i q h1 with ⟨e1', e2', e3'⟩ | ⟨rfl, rfl⟩ | ⟨rfl, rfl⟩
    · rw [hMold i (by rw [hr.len]; exact e1')] at h2
      have hob := hr.obj i q m' e3' h2
      exact hob.move (k := M.l.length) (stp_z Z hst) hMold hob.bel (fun b c e hl2 => by subst e; exact hob' i q c b e2' e3' hl2 h2) (hr.bags.kp htags rfl e3')
    · cases m' <;> trivial
    · rw [hMnew] at h2
      cases h2
      exact ho' _ (stp_z Z hst)
  · by_cases hb' : b < w.heap.size
    · exact hr.apart b (hst.own b hb' hb) hz
    · exact absurd (hr.old b hz) hb'
  · rcases hcase i oi hi with ⟨a1, a2, a3⟩ | ⟨rfl, rfl⟩ | ⟨rfl, rfl⟩
    · rw [hMold i (by rw [hr.len]; exact a1)] at mi
      rcases hcase j oj hj with ⟨b1, b2, b3⟩ | ⟨rfl, rfl⟩ | ⟨rfl, rfl⟩
      · rw [hMold j (by rw [hr.len]; exact b1)] at mj
        exact hr.inj i j oi oj b c c' a3 b3 li lj mi mj
      · cases lj
      · rw [hMnew] at mj
        exact (hnew i oi b c a2 a3 li mi c' (by cases mj; rfl)).elim
    · cases li
    · rw [hMnew] at mi
      rcases hcase j oj hj with ⟨b1, b2, b3⟩ | ⟨rfl, rfl⟩ | ⟨rfl, rfl⟩
      · rw [hMold j (by rw [hr.len]; exact b1)] at mj
        exact (hnew j oj b c' b2 b3 lj mj c (by cases mi; rfl)).elim
      · cases lj
      · rfl
/-- s[a:] as a row by itself: it begins later. -/
theorem ops_dropV (hΓ : TOK P Γ) {t e : TypeId} {i1 i2 : TI} {x : Operand} {lo : Option Operand} {n id : Nat} {a : Int} {l r : List α} (hz : subZ l a (l.length : Int) = some r) (h1 : Γ t = some i1) (h1' : i1.desc = .slice e) (h2 : Γ e = some i2) (hx : fr.ev x = some (.sv id n)) (hn : n = l.length) (hlo : fr.bound lo 0 = some a)
    (ho : hp[id]? = some (.rowv e i2.size l.length (l.flatMap enc))) (henc : ∀ y, (enc y).length = i2.size) :
    OpS P N ⟨some d, .slice t x lo none none, ty, pos, after, gd'⟩ fr hp (.sv hp.length r.length) (hp.set id .dead ++ [.rowv e i2.size r.length (r.flatMap enc)]) := fun Z w M ac hr => by
  obtain ⟨u1, _⟩ := hΓ t _ h1
  rw [h1'] at u1
  have hs := run_size' (P := P) (w := w) hΓ h2
  obtain ⟨a', b', ea, eb, e1, e2, rfl⟩ := subZ_ok hz
  subst ea
  obtain rfl : b' = l.length := by omega
  have hrl : ((l.take l.length).drop a').length = l.length - a' := by simp
  have hre : ((l.take l.length).drop a').flatMap enc = (l.flatMap enc).drop (a' * i2.size) := by rw [List.take_length, flat_drop henc]
  rw [hrl, hre]
  have hvx := hr.ev hx
  have hvv : ac.eval x = ac.eval x := rfl
  simp only [execOp, Option.map_none]
  generalize ac.eval x = vx at hvx
  cases hvx with
  | svnil hM =>
    have h0 : l.length = 0 := hn.symm
    have ha0 : a' = 0 := by omega
    subst ha0
    have hb : (Instr.sliceBounds true 0 0 (lo.map ac.eval) none none).run P w = .ok (0, 0, 0) w := run_bounds (P := P) (w := w) hr (b := true) (l := 0) (len := 0) (cap := 0) (hi := none) hlo rfl (Nat.le_refl _) (Nat.le_refl _)
    obtain ⟨k1, k2, k3⟩ := heap_anew (o' := .rowv e i2.size (l.length - 0) ((l.flatMap enc).drop (0 * i2.size))) (mo' := none) hr.heap ho rfl hM rfl (Nat.le_refl _) rfl rfl rfl (fun _ _ _ => rfl) (fun b c h => by cases h) (fun O' _ => ⟨by rw [List.eq_nil_of_length_eq_zero h0]; simp, by omega⟩)
    refine ⟨.slice none 0 0, w, M.app [none], by simp [Instr.sliceAt, Instr.slice, run_underlying u1, hb, hs], k1, ?_, k2, k3⟩
    rw [h0]
    exact .svnil (by rw [← hr.heap.len]; simp)
  | sv hM hnc hm =>
    rename_i b c
    subst hn
    have hb : (Instr.sliceBounds true l.length (vcap c) (lo.map ac.eval) none none).run P w = .ok (a', l.length, vcap c) w := run_bounds (P := P) (w := w) hr (b := true) (l := a') (len := l.length) (cap := vcap c) (hi := none) hlo rfl e1 hnc
    obtain ⟨hdl, cs, hbk, hcs, hnc', hcm, hcr⟩ := hr.heap.obj id _ _ ho hM
    have hle : a' * i2.size ≤ vcap c * i2.size := Nat.mul_le_mul_right _ (by omega)
    have hvo : voff (vmk (if vcap c = a' then voff c else voff c + a' * i2.size) (vcap c - a')) = if vcap c = a' then voff c else voff c + a' * i2.size := voff_mk (by omega)
    have hvc : vcap (vmk (if vcap c = a' then voff c else voff c + a' * i2.size) (vcap c - a')) = vcap c - a' := vcap_mk (by omega)
    obtain ⟨k1, k2, k3⟩ := heap_anew (o' := .rowv e i2.size (l.length - a') ((l.flatMap enc).drop (a' * i2.size))) (mo' := some (b, vmk (if vcap c = a' then voff c else voff c + a' * i2.size) (vcap c - a'))) hr.heap ho rfl hM rfl (Nat.le_refl _) rfl rfl rfl (fun _ _ _ => rfl) (fun b2 c2 h => by cases h; exact .inl ⟨c, rfl⟩) (fun O' hst => by
        refine ⟨by rw [List.length_drop, hdl, Nat.sub_mul], cs, hbk, ?_, ?_, ?_, fun j dd hj => ?_⟩
        · rw [hvo, hvc, Nat.sub_mul]
          split
          · rename_i hca; rw [hca]; omega
          · omega
        · rw [hvc]; omega
        · rw [hvc]; omega
        · rw [List.getElem?_drop] at hj
          obtain ⟨v, f1, f2⟩ := hcr _ dd hj
          have hjl : a' * i2.size + j < l.length * i2.size := by rw [← hdl]; exact (List.getElem?_eq_some_iff.1 hj).1
          refine ⟨v, ?_, f2.step hst⟩
          rw [hvo]
          split
          · rename_i hca
            have : l.length = a' := by omega
            rw [this] at hjl; omega
          · rw [Nat.add_assoc]; exact f1)
    refine ⟨.slice (some ⟨b, if vcap c = a' then voff c else voff c + a' * i2.size, none⟩) (l.length - a') (vcap c - a'), w, _, ?_, k1, ?_, k2, k3⟩
    · by_cases hc : vcap c = a'
      · rw [hc] at hb ⊢; simp [Instr.sliceAt, Instr.slice, run_underlying u1, hb, hs]
      · simp [Instr.sliceAt, Instr.slice, run_underlying u1, hb, hs, hc, Addr.add_lit]; try omega
    · have hMn : ∀ q : Option (Nat × Nat), (M.app [q]).l[hp.length]? = some q := fun q => by rw [← hr.heap.len]; simp
      have := VR.sv (w := w) (O := ownZ Z (hp.set id .dead ++ [.rowv e i2.size (l.length - a') ((l.flatMap enc).drop (a' * i2.size))]) (M.app [some (b, vmk (if vcap c = a' then voff c else voff c + a' * i2.size) (vcap c - a'))])) (M := M.app [some (b, vmk (if vcap c = a' then voff c else voff c + a' * i2.size) (vcap c - a'))]) (id := hp.length) (n := l.length - a') (hMn _) (by rw [hvc]; omega) (by rw [hvc]; omega)
      rw [hvo, hvc] at this
      exact this
/-- What append does with such a row. -/
theorem run_append_roomV (w : World) (t ty e : TypeId) (i : TypeInfo) (ht : P.underlying t = some (.slice e)) (hi : P.info? e = some i) (b o sLen sCap : Nat) (cur : Array Value) (hg : w.heap[b]? = some (.cells cur e (0, 0)))
    (a : Addr) (m c : Nat) (news : List Value) (hl : news.length = m * i.size) (hnews : ∀ j u, news[j]? = some u → w.cell? (a.add j) = some u) (h1 : ∀ u ∈ news, u.oneCell' = true)
    (hroom : sLen + m ≤ sCap) (hfit : o + sLen * i.size + news.length ≤ cur.size) :
    (Builtin.append_ #[t, t] ty #[.slice (some ⟨b, o, none⟩) sLen sCap, .slice (some a) m c]).run P w =
      .ok (.slice (some ⟨b, o, none⟩) (sLen + m) sCap) (w.setRow b (setAt cur.toList (o + sLen * i.size) news).toArray) := by
  have hf := run_firstCells_some (P := P) w i.size m a m c news hl hnews
  have hst := run_storeCells_at P b (o + sLen * i.size) e news 0 cur w hg (by simpa using hfit) h1
  simp only [Nat.add_zero] at hst
  simp [Builtin.append_, run_underlying ht, sizeOf, typeInfo, hi, Builtin.lenOf, hroom, hf, Addr.add_lit, hst, setAt]
theorem app_coreV {w : World} {t te tyo : TypeId} {inf : TypeInfo} {z : Value} {n m : Nat} {sv xv : Value} {cs0 : Array Value} {news : List Value} (mo : Option (Nat × Nat)) (hu : P.underlying t = some (.slice te)) (hi : P.info? te = some inf) (hz : inf.zero = some z) (hzs : z.cells.size = inf.size) (hz0 : 0 < inf.size)
    (hs : (mo = none ∧ sv = .slice none 0 0 ∧ n = 0) ∨ ∃ b c, mo = some (b, c) ∧ sv = .slice (some ⟨b, voff c, none⟩) n (vcap c) ∧ w.heap[b]? = some (.cells cs0 te (0, 0)) ∧ voff c + vcap c * inf.size ≤ cs0.size ∧ n ≤ vcap c ∧ vcap c ≤ maxLen)
    (hx : (xv = .slice none 0 0 ∧ m = 0 ∧ news = []) ∨ ∃ b off cap, xv = .slice (some ⟨b, off, none⟩) m cap ∧ (∀ j u, news[j]? = some u → w.cell? ⟨b, off + j, none⟩ = some u)) (hl : news.length = m * inf.size) (h1 : ∀ u ∈ news, u.oneCell' = true)
    (hm : n + m ≤ maxLen) (hb : (n + m) * inf.bytes ≤ 140737488355328) :
    ∃ v' w' mo', (Builtin.append_ #[t, t] tyo #[sv, xv]).run P w = .ok v' w' ∧ w.heap.size ≤ w'.heap.size ∧ w'.os = w.os ∧ w'.tape = w.tape ∧ w'.output = w.output ∧
      ((mo' = none ∧ v' = .slice none 0 0 ∧ n + m = 0 ∧ w' = w ∧ mo = none) ∨ ∃ b' c' cur, mo' = some (b', c') ∧ v' = .slice (some ⟨b', voff c', none⟩) (n + m) (vcap c') ∧ w'.heap[b']? = some (.cells cur te (0, 0)) ∧ voff c' + vcap c' * inf.size ≤ cur.size ∧ n + m ≤ vcap c' ∧ vcap c' ≤ maxLen ∧
        (∀ b c, mo = some (b, c) → ∀ j, j < n * inf.size → cur[voff c' + j]? = cs0[voff c + j]?) ∧ (∀ j u, news[j]? = some u → cur[voff c' + n * inf.size + j]? = some u) ∧ (∀ k, k < w.heap.size → k ≠ b' → w'.heap[k]? = w.heap[k]?) ∧ ((∃ c, mo = some (b', c)) ∨ b' = w.heap.size)) := by
  have hsmall : n + m ≤ 9223372036854775807 := by simp only [maxLen] at hm; omega
  have hxc : ∀ b off cap, xv = .slice (some ⟨b, off, none⟩) m cap → (∀ j u, news[j]? = some u → w.cell? ⟨b, off + j, none⟩ = some u) → ∀ j u, news[j]? = some u → w.cell? ((⟨b, off, none⟩ : Addr).add j) = some u := fun b off cap _ h j u hj => by rw [Addr.add_lit]; exact h j u hj
  have v0 : ∀ c, c ≤ maxLen → voff c = 0 ∧ vcap c = c := fun c hc => by
    have h1 := voff_mk (o := 0) hc
    have h2 := vcap_mk (o := 0) hc
    have e : vmk 0 c = c := by unfold vmk; omega
    rw [e] at h1 h2
    exact ⟨h1, h2⟩
  rcases hx with ⟨rfl, rfl, rfl⟩ | ⟨xb, xo, xc, rfl, hxcell⟩
  · rcases hs with ⟨rfl, rfl, rfl⟩ | ⟨b, c, rfl, rfl, hb', hcs, hnc, hcm⟩
    · refine ⟨.slice none 0 0, w, none, ?_, Nat.le_refl _, rfl, rfl, rfl, .inl ⟨rfl, rfl, rfl, rfl, rfl⟩⟩
      simp [Builtin.append_, run_underlying hu, sizeOf, typeInfo, hi, Builtin.lenOf, Builtin.firstCells]
    · refine ⟨.slice (some ⟨b, voff c, none⟩) n (vcap c), w, some (b, c), ?_, Nat.le_refl _, rfl, rfl, rfl, .inr ⟨b, c, cs0, rfl, rfl, hb', hcs, hnc, hcm, fun b2 c2 e j _ => by cases e; rfl, fun j u h => by simp at h, fun _ _ _ => rfl, .inl ⟨c, rfl⟩⟩⟩
      simp [Builtin.append_, run_underlying hu, sizeOf, typeInfo, hi, Builtin.lenOf, Builtin.firstCells, hnc, storeCells]
  · have hxc' := hxc xb xo xc rfl hxcell
    rcases hs with ⟨rfl, rfl, rfl⟩ | ⟨b, c, rfl, rfl, hb', hcs, hnc, hcm⟩
    · by_cases hm0 : m = 0
      · subst hm0
        have hn : news = [] := List.eq_nil_of_length_eq_zero (by simpa using hl)
        subst hn
        refine ⟨.slice none 0 0, w, none, ?_, Nat.le_refl _, rfl, rfl, rfl, .inl ⟨rfl, rfl, rfl, rfl, rfl⟩⟩
        simp [Builtin.append_, run_underlying hu, sizeOf, typeInfo, hi, Builtin.lenOf, Builtin.firstCells, loadCells, loadCellsFrom]
      · have hr := run_append_nil (P := P) w t tyo te inf z hu hi hz ⟨xb, xo, none⟩ m xc news hl hxc' (by omega) (by omega) (by simp only [Nat.zero_add] at hb; omega)
        have hge := grownCap_ge w m 0 te
        have hcm : grownCap w m 0 te ≤ maxLen := grownCap_le_maxLen w m 0 te (by omega)
        obtain ⟨q1, q2⟩ := v0 _ hcm
        refine ⟨_, _, some (w.heap.size, grownCap w m 0 te), hr, by simp, rfl, rfl, rfl, .inr ⟨w.heap.size, _, _, rfl, by simp [q1, q2], heap_alloc_new w.drew _, ?_, by rw [q2]; omega, by rw [q2]; omega, (fun b c h => by cases h), fun j u hj => ?_, fun k hk hne => Gk.heap_old w.drew _ k hk, .inr rfl⟩⟩
        · rw [q1, q2]
          simp only [Array.size_append, List.size_toArray, size_zeroCells, hzs, hl, ← Nat.add_mul]
          rw [Nat.zero_add]
          exact Nat.le_of_eq (by congr 1; omega)
        · have hlt : j < news.length := (List.getElem?_eq_some_iff.1 hj).1
          rw [q1, Nat.zero_mul, Nat.zero_add, Array.getElem?_append_left (by simpa using hlt)]
          simpa using hj
    · by_cases hroom : n + m ≤ vcap c
      · have hmul := Nat.mul_le_mul_right inf.size hroom
        rw [Nat.add_mul] at hmul
        have hfit : voff c + n * inf.size + news.length ≤ cs0.size := by rw [hl]; omega
        have hr := run_append_roomV (P := P) w t tyo te inf hu hi b (voff c) n (vcap c) cs0 hb' ⟨xb, xo, none⟩ m xc news hl hxc' h1 hroom hfit
        have hfit' : voff c + n * inf.size + news.length ≤ cs0.toList.length := by simpa using hfit
        refine ⟨_, _, some (b, c), hr, by simp, rfl, rfl, rfl, .inr ⟨b, c, _, rfl, rfl, setRow_heap w b cs0 _ te _ hb', ?_, hroom, hcm, fun b2 c2 e j hj => ?_, fun j u hj => ?_, fun k _ hne => setRow_other w b k _ hne, .inl ⟨c, rfl⟩⟩⟩
        · rw [List.size_toArray, setAt_length hfit', Array.length_toList]; exact hcs
        · cases e
          rw [List.getElem?_toArray, setAt_get hfit', if_neg (by omega)]
          simp
        · have hlt : j < news.length := (List.getElem?_eq_some_iff.1 hj).1
          rw [List.getElem?_toArray, setAt_get hfit', if_pos (by omega)]
          rw [show voff c + n * inf.size + j - (voff c + n * inf.size) = j by omega]
          exact hj
      · have holds : ∀ j u, ((cs0.toList.drop (voff c)).take (n * inf.size))[j]? = some u → w.cell? ((⟨b, voff c, none⟩ : Addr).add j) = some u := fun j u hj => by
          rw [Addr.add_lit, cell_of_row w b _ cs0 te _ hb']
          rw [List.getElem?_take] at hj
          split at hj
          · rw [List.getElem?_drop] at hj; simpa using hj
          · cases hj
        have hxl : ((cs0.toList.drop (voff c)).take (n * inf.size)).length = n * inf.size := by
          have := Nat.mul_le_mul_right inf.size hnc
          rw [List.length_take, List.length_drop, Array.length_toList]; omega
        have hr := run_append_grow (P := P) w t tyo te inf z hu hi hz ⟨b, voff c, none⟩ n (vcap c) ((cs0.toList.drop (voff c)).take (n * inf.size)) hxl holds ⟨xb, xo, none⟩ m xc news hl hxc' (by omega) (by omega) (growslice_fits (by omega) hb)
        have hge := grownCap_ge w (n + m) (vcap c) te
        have hcm : grownCap w (n + m) (vcap c) te ≤ maxLen := grownCap_le_maxLen w (n + m) (vcap c) te hm
        obtain ⟨q1, q2⟩ := v0 _ hcm
        refine ⟨_, _, some (w.heap.size, grownCap w (n + m) (vcap c) te), hr, by simp, rfl, rfl, rfl, .inr ⟨w.heap.size, _, _, rfl, by simp [q1, q2], heap_alloc_new w.drew _, ?_, by rw [q2]; exact hge, by rw [q2]; exact hcm, fun b2 c2 e j hj => ?_, fun j u hj => ?_, fun k hk hne => Gk.heap_old w.drew _ k hk, .inr rfl⟩⟩
        · rw [q1, q2]
          simp only [Array.size_append, List.size_toArray, size_zeroCells, hzs, hl, hxl, ← Nat.add_mul]
          rw [Nat.zero_add]
          exact Nat.le_of_eq (by congr 1; omega)
        · cases e
          rw [q1, Nat.zero_add, Array.append_assoc, Array.getElem?_append_left (by simpa [hxl] using hj)]
          rw [List.getElem?_toArray, List.getElem?_take_of_lt hj, List.getElem?_drop]
          simp
        · have hlt : j < news.length := (List.getElem?_eq_some_iff.1 hj).1
          rw [q1, Nat.zero_add, Array.append_assoc, Array.getElem?_append_right (by simp [hxl]), Array.getElem?_append_left (by simp [hxl]; exact hlt)]
          simpa [hxl] using hj
theorem ops_appendV0 (hΓ : TOK P Γ) {t te : TypeId} {i1 i2 : TI} {x y : Operand} {id n m : Nat} {ds ys : List D} (h1 : Γ t = some i1) (h1' : i1.desc = .slice te) (h2 : Γ te = some i2) (hz : Nat.beq i2.zero.cells.size i2.size = true) (hz0 : Nat.blt 0 i2.size = true)
    (hx : fr.ev x = some (.sv id n)) (ho : hp[id]? = some (.rowv te i2.size n ds)) (hy : fr.ev y = some (.d (.ro m ys))) (hl : ys.length = m * i2.size) (hb : (n + m) * i2.bytes ≤ 140737488355328) (hm : n + m ≤ maxLen) :
    OpS P N ⟨some d, .call ⟨.builtin .append, #[x, y], #[t, t]⟩, ty, pos, after, gd'⟩ fr hp (.sv hp.length (n + m)) (hp.set id .dead ++ [.rowv te i2.size (n + m) (ds ++ ys)]) := by
  intro Z w M a hr
  obtain ⟨u1, _⟩ := hΓ t _ h1
  rw [h1'] at u1
  obtain ⟨_, inf, e1, e2, e3, e4⟩ := hΓ te _ h2
  have hid : id < hp.length := (List.getElem?_eq_some_iff.1 ho).1
  have hidM : id < M.l.length := by rw [hr.heap.len]; exact hid
  have hzs : i2.zero.cells.size = inf.size := by rw [e2]; exact Nat.eq_of_beq_eq_true hz
  have hvx := hr.ev hx
  have hvy := hr.ev hy
  have hob := hr.heap.obj id _ _ ho (List.getElem?_eq_getElem hidM)
  generalize hmo : M.l[id] = mo at hob
  have hMid : M.l[id]? = some mo := by rw [List.getElem?_eq_getElem hidM, hmo]
  have hsrc : ∃ news : List Value, ((a.eval y = .slice none 0 0 ∧ m = 0 ∧ news = []) ∨ ∃ b off cap, a.eval y = .slice (some ⟨b, off, none⟩) m cap ∧ (∀ (j : Nat) (u : Value), news[j]? = some u → w.cell? ⟨b, off + j, none⟩ = some u)) ∧
      news.length = ys.length ∧ (∀ (j : Nat) (u : Value) (d : D), news[j]? = some u → ys[j]? = some d → VD w (ownZ Z hp M) d u) ∧ ∀ u ∈ news, u.oneCell' = true := by
    cases hvy with
    | d hd =>
      rcases data_cells hd with ⟨e, rfl, rfl⟩ | ⟨b, off, cap, vs, e, hl, hc, hv, h1⟩
      · exact ⟨[], .inl ⟨e, rfl, rfl⟩, rfl, fun j u d h => by simp at h, fun u h => by cases h⟩
      · exact ⟨vs, .inr ⟨b, off, cap, e, hc⟩, hl, hv, h1⟩
  obtain ⟨news, hsrc1, hsrc2, hsrc3, hsrc4⟩ := hsrc
  have hrow : ∃ cs0 : Array Value, ((mo = none ∧ a.eval x = .slice none 0 0 ∧ n = 0) ∨ ∃ b c, mo = some (b, c) ∧ a.eval x = .slice (some ⟨b, voff c, none⟩) n (vcap c) ∧ w.heap[b]? = some (.cells cs0 te (0, 0)) ∧ voff c + vcap c * inf.size ≤ cs0.size ∧ n ≤ vcap c ∧ vcap c ≤ maxLen) ∧
      (mo = none → ds = []) ∧ ds.length = n * inf.size ∧ (∀ b c, mo = some (b, c) → ∀ (j : Nat) (d : D), ds[j]? = some d → ∃ v : Value, cs0[voff c + j]? = some v ∧ VD w (ownZ Z hp M) d v) := by
    cases mo with
    | none =>
      obtain ⟨rfl, rfl⟩ := hob
      refine ⟨#[], .inl ⟨rfl, ?_, rfl⟩, fun _ => rfl, by simp, fun b c h => by cases h⟩
      generalize a.eval x = vx at hvx
      cases hvx with
      | sv h _ _ => rw [hMid] at h; cases h
      | svnil h => rfl
    | some bc =>
      obtain ⟨b, c⟩ := bc
      obtain ⟨hdl, cs, hb, hcs, hnc, hcm, hcr⟩ := hob
      refine ⟨cs, .inr ⟨b, c, rfl, ?_, hb, by rw [e2]; exact hcs, hnc, hcm⟩, (fun h => by cases h), by rw [hdl, e2], fun b2 c2 e => by cases e; exact hcr⟩
      generalize a.eval x = vx at hvx
      cases hvx with
      | sv h _ _ => rw [hMid] at h; cases h; rfl
      | svnil h => rw [hMid] at h; cases h
  obtain ⟨cs0, hrow1, hrow2, hrow3, hrow4⟩ := hrow
  obtain ⟨v', w', mo', hrun, g1, g2, g3, g4, hres⟩ := app_coreV (P := P) (tyo := ty) mo u1 e1 e4 hzs (by rw [e2]; exact nblt.1 hz0) hrow1 hsrc1 (by rw [hsrc2, hl, e2]) hsrc4 hm (by rw [e3]; exact hb)
  have hrow0 : ∀ (ds' : List D) (O' : Ow), (∀ b' c', mo' = some (b', c') → ds' = ds ++ ys) → True := fun _ _ _ => trivial
  obtain ⟨k1, k2, k3⟩ := heap_anew (o' := .rowv te i2.size (n + m) (ds ++ ys)) (mo' := mo') (w' := w') hr.heap ho rfl hMid rfl g1 g2 g3 g4
    (fun k hk hne => by
      rcases hres with ⟨_, _, _, rfl, _⟩ | ⟨b', c', cur, r1, r2, r3, r4, r5, r6, r7, r8, r9, r10⟩
      · rfl
      · exact r9 k hk (hne b' c' r1))
    (fun b c' e => by
      rcases hres with ⟨r1, _⟩ | ⟨b', c2, cur, r1, r2, r3, r4, r5, r6, r7, r8, r9, r10⟩
      · rw [r1] at e; cases e
      · rw [r1] at e
        cases e
        exact r10.imp (fun h => h) fun h => Nat.le_of_eq h.symm)
    (fun O' hst => by
      rcases hres with ⟨rfl, r2, r3, r4, rfl⟩ | ⟨b', c', cur, rfl, r2, r3, r4, r5, r6, r7, r8, r9, r10⟩
      · have : ds = [] := hrow2 rfl
        have hm0 : m = 0 := by omega
        subst hm0
        have : ys = [] := List.eq_nil_of_length_eq_zero (by simpa using hl)
        subst this
        exact ⟨by simp [*], r3⟩
      · refine ⟨by rw [List.length_append, hrow3, hl, e2, Nat.add_mul], cur, r3, by rw [e2] at r4; exact r4, r5, r6, fun j dd hj => ?_⟩
        by_cases hjn : j < ds.length
        · rw [List.getElem?_append_left hjn] at hj
          cases mo with
          | none => have := hrow2 rfl; subst this; simp at hjn
          | some bc =>
            obtain ⟨b0, c0⟩ := bc
            obtain ⟨v, f1, f2⟩ := hrow4 b0 c0 rfl j dd hj
            exact ⟨v, by rw [r7 b0 c0 rfl j (by rw [← hrow3]; exact hjn)]; exact f1, f2.step hst⟩
        · rw [List.getElem?_append_right (by omega)] at hj
          have hlt : j - ds.length < news.length := by rw [hsrc2]; exact (List.getElem?_eq_some_iff.1 hj).1
          have hn := List.getElem?_eq_getElem hlt
          refine ⟨news[j - ds.length], ?_, (hsrc3 _ _ dd hn hj).step hst⟩
          have := r8 _ _ hn
          rw [← hrow3] at this
          rw [← this]
          congr 1
          omega)
  refine ⟨v', w', M.app [mo'], ?_, k1, ?_, k2, k3⟩
  · simp [execOp, resolve, invoke, builtin, hrun]
  · have hMnew : (M.app [mo']).l[hp.length]? = some mo' := by rw [← hr.heap.len]; simp
    rcases hres with ⟨rfl, rfl, r3, r4, rfl⟩ | ⟨b', c', cur, rfl, rfl, r3, r4, r5, r6, r7, r8, r9, r10⟩
    · rw [r3]; exact .svnil hMnew
    · exact .sv hMnew r5 r6
theorem ops_appendV (hΓ : TOK P Γ) {t te : TypeId} {i1 i2 : TI} {x y : Operand} {id n : Nat} {l m r : List α} (hz : apd l m = some r) (h1 : Γ t = some i1) (h1' : i1.desc = .slice te) (h2 : Γ te = some i2) (hzc : Nat.beq i2.zero.cells.size i2.size = true) (hz0 : Nat.blt 0 i2.size = true)
    (hx : fr.ev x = some (.sv id n)) (hn : n = l.length) (ho : hp[id]? = some (.rowv te i2.size l.length (l.flatMap enc))) (hy : fr.ev y = some (.d (Sl enc m))) (henc : ∀ y, (enc y).length = i2.size) (hbytes : Nat.ble (4294967296 * i2.bytes) 140737488355328 = true) :
    OpS P N ⟨some d, .call ⟨.builtin .append, #[x, y], #[t, t]⟩, ty, pos, after, gd'⟩ fr hp (.sv hp.length r.length) (hp.set id .dead ++ [.rowv te i2.size r.length (r.flatMap enc)]) := by
  obtain ⟨rfl, hle⟩ := apd_ok hz
  subst hn
  have hb := Nat.le_of_ble_eq_true hbytes
  have hmul : (l.length + m.length) * i2.bytes ≤ 4294967296 * i2.bytes := Nat.mul_le_mul_right _ hle
  have := ops_appendV0 (P := P) (N := N) (d := d) (ty := ty) (pos := pos) (after := after) (gd' := gd') hΓ h1 h1' h2 hzc hz0 hx ho hy (flat_len henc m) (by omega) (by simp only [maxLen]; omega)
  rw [List.length_append, List.flatMap_append]
  exact this
end
end Go.Gk
