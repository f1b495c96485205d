/-
  THE GHOST LOGIC, PART 34: rows in the fields of structs.
-/
import Derived.Test.YtpgnhnjhpnbelaaGreatDoorGk33
set_option linter.unusedVariables false
set_option linter.unusedSimpArgs false
namespace Go.Gk
/-- A type's zero; the cells ks are told as they are. -/
def zeroX (ks : List Nat) (i : TI) : List G := i.zero.cells.toList.mapIdx fun j c => .d (bif ks.contains j then .v c else nilD c)
/-- What names the row is forgotten. -/
def G.forg (id : Nat) (g : G) : G := bif g.has id then .junk else g
def Ob.forg (id : Nat) : Ob → Ob
  | .box t gs => .box t (gs.map (G.forg id))
  | o => o
section
variable {P : Program} {Γ : TypeId → Option TI} {F N : Nat} {Q : GPost} {fr fr' : Fr} {hp hp' : List Ob} {ks : List Kt}
variable {α : Type} {enc : α → List D} {ops : Array Oper} {rest : List Oper} {g : G}
variable {d : Tmp} {op : Op} {ty : TypeId} {pos : String} {after : Array Edge} {gd' : Option (Nat × Bool)}

theorem zeroX_ok {Z : Env} {w : World} {M : Mp} {ks : List Nat} {i : TI} (hz : (i.zero.cells.toList.all (·.oneCell')) = true) (j : Nat) (g : G) (hj : (zeroX ks i)[j]? = some g) :
    ∃ c : Value, i.zero.cells[j]? = some c ∧ c.oneCell' = true ∧ VR w (ownZ Z hp M) M g c := by
  simp only [zeroX, List.getElem?_mapIdx] at hj
  obtain ⟨c, hc, rfl⟩ := Option.map_eq_some_iff.1 hj
  have h1 := List.all_eq_true.1 hz c (List.mem_of_getElem? hc)
  refine ⟨c, by simpa using hc, h1, .d ?_⟩
  cases ks.contains j with
  | true => exact .v c h1
  | false => exact vd_nilD c h1

/-- A STRUCT LITERAL, some unset fields told as they are. -/
theorem op_buildX (hΓ : TOK P Γ) (ks : List Nat) {t : TypeId} {fs : Array Field} {i1 : TI} {parts : Array (Nat × Operand)} {pg : List (Nat × G)} {gs : List G} (h1 : Γ t = some i1) (h1' : i1.desc = .struct fs) (hfs : (fs.toList.all fun f => (Γ f.type).isSome) = true)
    (hz : (i1.zero.cells.toList.all (·.oneCell')) = true) (hp' : evParts fr parts.toList = some pg) (hf : fillG (placesG Γ fs) (zeroX ks i1) pg = some gs)
    : OpP P N ⟨some d, .build t parts, ty, pos, after, gd'⟩ fr hp (.agg gs) := by
  intro Z w M a hr
  obtain ⟨u1, inf, e1, e2, e3, e4⟩ := hΓ t _ h1
  rw [h1'] at u1
  obtain ⟨r, p1, p2⟩ := places_run (P := P) (w := w) hΓ fs.toList fun f hf => List.all_eq_true.1 hfs f hf
  have hpl : (fun i => (r.toArray)[i]?) = placesG Γ fs := by
    funext i
    rw [List.getElem?_toArray, p2 i]
    simp [placesG]
  have hpl' : (fun i => r[i]?) = placesG Γ fs := by rw [← hpl]; funext i; simp
  obtain ⟨cs', r1, r2, r3, r4⟩ := fill_ok (place := placesG Γ fs) (cs := i1.zero.cells) hr parts.toList hp' hf (by simp [zeroX]) (fun j g hj => zeroX_ok hz j g hj)
  refine ⟨.agg cs', ?_, .agg r2 fun j g v hg hv => ?_⟩
  · have hm : (fs.mapM fun f => (Prod.mk f.offset <$> sizeOf f.type : Sem (Nat × Nat))).run P w = .ok r.toArray w := by
      rw [Array.mapM_eq_mapM_toList]
      simp [p1]
    simp [execOp, Instr.build, zeroValue, typeInfo, e1, e4, run_underlying u1, hm]
    rw [← hpl'] at r1
    simp [r1]
  · obtain ⟨v', f1, f2, f3⟩ := r4 j g hg
    rw [hv] at f1
    cases f1
    exact f3

/-- A heap with one more row, a nil slice's. -/
theorem heap_nilRow {Z : Env} {w : World} {M : Mp} (te : TypeId) (sz : Nat) (hr : RelH Z hp M w) :
    RelH Z (hp ++ [.row te sz 0 []]) (M ++ [none]) w ∧ Stp w (own hp M) w (own (hp ++ [.row te sz 0 []]) (M ++ [none])) ∧ Agr hp.length M (M ++ [none]) := by
  have hM : ∀ i, i < M.length → (M ++ [none])[i]? = M[i]? := fun i hi => List.getElem?_append_left hi
  have hown : ∀ b, own (hp ++ [.row te sz 0 []]) (M ++ [none]) b → own hp M b := by
    rintro b ⟨i, o, c, h1, h2, h3⟩
    rcases getq_snoc h3 with ⟨hi, h4⟩ | ⟨hi, h4⟩
    · rw [List.getElem?_append_left (by rw [← hr.len]; exact hi)] at h1
      exact ⟨i, o, c, h1, h2, h4⟩
    · cases h4
  have hst : Stp w (own hp M) w (own (hp ++ [.row te sz 0 []]) (M ++ [none])) := ⟨Nat.le_refl _, fun _ _ _ => rfl, fun b _ h => hown b h, rfl, rfl, rfl⟩
  refine ⟨⟨by simp [hr.len], fun i o m h1 h2 => ?_, fun b hb hz => hr.apart b (hown b hb) hz, hr.old, hr.amb, fun i j oi oj b c c' hi hj li lj mi mj => ?_⟩, hst, ⟨by simp [hr.len], fun i hi => hM i (by rw [hr.len]; exact hi)⟩⟩
  · rcases getq_snoc h1 with ⟨hi, h3⟩ | ⟨hi, rfl⟩
    · rw [hM i (by rw [hr.len]; exact hi)] at h2
      have := hr.obj i o m h3 h2
      exact this.move (k := M.length) (stp_z Z hst) hM this.bel fun _ _ _ _ => rfl
    · subst hi
      rw [← hr.len] at h2
      rcases getq_snoc h2 with ⟨hi, _⟩ | ⟨_, h⟩
      · omega
      · subst h; exact ⟨rfl, rfl⟩
  · rcases getq_snoc mi with ⟨hi1, hi2⟩ | ⟨_, hi2⟩
    · rcases getq_snoc mj with ⟨hj1, hj2⟩ | ⟨_, hj2⟩
      · rw [List.getElem?_append_left (by rw [← hr.len]; exact hi1)] at hi
        rw [List.getElem?_append_left (by rw [← hr.len]; exact hj1)] at hj
        exact hr.inj i j oi oj b c c' hi hj li lj hi2 hj2
      · cases hj2
    · cases hi2

/-- A nil field of what an operation yields is made a row of one's own. -/
theorem ops_nilAt (te : TypeId) (sz k : Nat) {o : Oper} {gs : List G} (h : OpS P N o fr hp (.agg gs) hp') (hk : gs[k]? = some (.d (.v (.slice none 0 0)))) :
    OpS P N o fr hp (.agg (gs.set k (.sl hp'.length 0))) (hp' ++ [.row te sz 0 []]) := by
  intro Z w M a hr
  obtain ⟨v, w', M', hrun, h1, h2, h3, h4⟩ := h Z w M a hr
  obtain ⟨k1, k2, k3⟩ := heap_nilRow te sz h1
  have hM : ∀ i, i < M'.length → (M' ++ [none])[i]? = M'[i]? := fun i hi => List.getElem?_append_left hi
  have hle : hp.length ≤ hp'.length := by rw [← h1.len]; exact h4.le
  refine ⟨v, w', M' ++ [none], hrun, k1, ?_, h3.trans k2, h4.trans k3 hle⟩
  cases h2 with
  | agg hl ih =>
    refine .agg (by simpa using hl) fun j g v hg hv => ?_
    by_cases hjk : k = j
    · subst hjk
      have hlt : k < gs.length := (List.getElem?_eq_some_iff.1 hk).1
      rw [List.getElem?_set_self hlt] at hg
      cases hg
      have := ih k _ v hk hv
      rw [vr_v this]
      exact .slnil (by rw [← h1.len]; simp)
    · rw [List.getElem?_set_ne hjk] at hg
      exact (ih j g v hg hv).step (stp_z Z k2) hM

theorem VR.forg {w : World} {O : Nat → Prop} {M : Mp} (id : Nat) {g : G} {v : Value} (h : VR w O M g v) : VR w O M (g.forg id) v := by
  unfold G.forg
  cases g.has id with
  | true => exact .junk v
  | false => exact h

theorem heap_forg {Z : Env} {w : World} {M : Mp} (id : Nat) (hr : RelH Z hp M w) :
    RelH Z (hp.map (Ob.forg id)) M w ∧ Stp w (own hp M) w (own (hp.map (Ob.forg id)) M) := by
  have lv : ∀ o : Ob, (o.forg id).live = o.live := fun o => by cases o <;> rfl
  have hold : ∀ (i : Nat) (o : Ob), (hp.map (Ob.forg id))[i]? = some o → ∃ o0, hp[i]? = some o0 ∧ o = o0.forg id := fun i o h => by
    rw [List.getElem?_map] at h
    obtain ⟨o0, h1, h2⟩ := Option.map_eq_some_iff.1 h
    exact ⟨o0, h1, h2.symm⟩
  have hown : ∀ b, own (hp.map (Ob.forg id)) M b → own hp M b := by
    rintro b ⟨i, o, c, h1, h2, h3⟩
    obtain ⟨o0, e1, rfl⟩ := hold i o h1
    exact ⟨i, o0, c, e1, by rw [← lv o0]; exact h2, h3⟩
  have hst : Stp w (own hp M) w (own (hp.map (Ob.forg id)) M) := ⟨Nat.le_refl _, fun _ _ _ => rfl, fun b _ h => hown b h, rfl, rfl, rfl⟩
  refine ⟨⟨by simp [hr.len], fun i o m h1 h2 => ?_, fun b hb hz => hr.apart b (hown b hb) hz, hr.old, hr.amb, fun i j oi oj b c c' hi hj li lj mi mj => ?_⟩, hst⟩
  · obtain ⟨o0, e1, rfl⟩ := hold i o h1
    have hob := hr.obj i o0 m e1 h2
    have hob' : ObR w (ownZ Z (hp.map (Ob.forg id)) M) M o0 m := hob.move (k := M.length) (stp_z Z hst) (fun _ _ => rfl) hob.bel fun _ _ _ _ => rfl
    cases o0 with
    | box tb gs =>
      match m, hob' with
      | some (b, c), ⟨cs, e1, e2, hc⟩ =>
        refine ⟨cs, e1, by simpa using e2, fun j g hg => ?_⟩
        rw [List.getElem?_map] at hg
        obtain ⟨g0, hg0, rfl⟩ := Option.map_eq_some_iff.1 hg
        obtain ⟨v, f1, f2, f3⟩ := hc j g0 hg0
        exact ⟨v, f1, f2, f3.forg id⟩
    | _ => exact hob'
  · obtain ⟨o1, e1, rfl⟩ := hold i oi hi
    obtain ⟨o2, e2, rfl⟩ := hold j oj hj
    exact hr.inj i j o1 o2 b c c' e1 e2 (by rw [← lv o1]; exact li) (by rw [← lv o2]; exact lj) mi mj

theorem gh_forg (id : Nat) : ∀ Z w M a, Rel Z hp M w fr a N → ∃ M', Rel Z (hp.map (Ob.forg id)) M' w fr a N ∧ Stp w (own hp M) w (own (hp.map (Ob.forg id)) M') ∧ Agr hp.length M M' := by
  intro Z w M a hr
  obtain ⟨h1, h2⟩ := heap_forg id hr.heap
  exact ⟨M, ⟨h1, fun t g h => let ⟨v, e1, e2⟩ := hr.fr t g h; ⟨v, e1, e2.step (stp_z Z h2) (fun _ _ => rfl)⟩, hr.size, hr.defers⟩, h2, ⟨Nat.le_of_eq hr.heap.len.symm, fun _ _ => rfl⟩⟩
/-- The boxes forget a row. -/
theorem eo_forg {l : List Oper} (id : Nat) (hp2 : List Ob) (hhp : hp.map (Ob.forg id) = hp2) (hF : F ≤ hp.length) (k : EO P F N ops l Q fr hp2) : EO P F N ops l Q fr hp := by
  subst hhp
  exact eo_ghost hF (gh_forg id) k
/-- An operation behind a step that forgets. -/
theorem ops_forg {o : Oper} (id : Nat) (h : OpS P N o fr (hp.map (Ob.forg id)) g hp') : OpS P N o fr hp g hp' := by
  intro Z w M a hr
  obtain ⟨M1, h1, h2, h3⟩ := gh_forg id Z w M a hr
  obtain ⟨v, w', M', hrun, k1, k2, k3, k4⟩ := h Z w M1 a h1
  exact ⟨v, w', M', hrun, k1, k2, h2.trans k3, h3.trans k4 (by simp)⟩
end
end Go.Gk
