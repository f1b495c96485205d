/-
  THE GHOST LOGIC, PART 27: moving a name; the lists' form of a region that draws and turns objects.
-/
import Derived.Test.YtpgnhnjhpnbelaaGreatDoorGk26
set_option linter.unusedVariables false
set_option linter.unusedSimpArgs false
namespace Go.Gk

def mvf (src dst i : Nat) : Nat := bif Nat.beq i src then dst else i
def Fr.mv (src dst : Nat) : Fr → Fr
  | [] => []
  | (t, g) :: r => (t, bif g.has dst then .junk else g.ren (mvf src dst)) :: Fr.mv src dst r
theorem Fr.mv_get {src dst : Nat} : ∀ {fr : Fr} {t : Nat} {g : G}, (fr.mv src dst).get t = some g → ∃ g0, fr.get t = some g0 ∧ (g = .junk ∨ (g0.has dst = false ∧ g = g0.ren (mvf src dst)))
  | [], _, _, h => by cases h
  | (t0, g0) :: r, t, g, h => by
    simp only [Fr.mv, Fr.get] at h ⊢
    cases hk : Nat.beq t0 t with
    | true =>
      rw [hk] at h
      refine ⟨g0, rfl, ?_⟩
      cases hh : g0.has dst with
      | true => rw [hh] at h; cases h; exact .inl rfl
      | false => rw [hh] at h; cases h; exact .inr ⟨rfl, rfl⟩
    | false => rw [hk] at h; exact Fr.mv_get h
def mvObs (src dst : Nat) (o : Ob) (hp : List Ob) : List Ob := ((hp.map (Ob.ren (mvf src dst))).set dst (o.ren (mvf src dst))).set src .dead

section
variable {P : Program} {Γ : TypeId → Option TI} {F N : Nat} {Q : GPost} {fr fr' : Fr} {hp hp' : List Ob} {ks : List Kt}
variable {ops : Array Oper} {rest : List Oper} {g : G}

theorem gh_move (src dst : Nat) {o : Ob} (ho : hp[src]? = some o) (hol : o.live = true) (hdst : hp[dst]? = some .dead) (hno : (hp.all fun o => !o.has dst) = true) (Z : Env) (w : World) (M : Mp) (a : Act) (hr : Rel Z hp M w fr a N) :
    ∃ M', Rel Z (mvObs src dst o hp) M' w (fr.mv src dst) a N ∧ Stp w (own hp M) w (own (mvObs src dst o hp) M') ∧ M'.length = M.length ∧ ∀ i, i ≠ dst → M'[i]? = M[i]? := by
  have hs : src < hp.length := (List.getElem?_eq_some_iff.1 ho).1
  have hd : dst < hp.length := (List.getElem?_eq_some_iff.1 hdst).1
  have hne : src ≠ dst := fun e => by subst e; rw [ho] at hdst; cases hdst; cases hol
  have hsM : src < M.length := by rw [hr.heap.len]; exact hs
  have hdM : dst < M.length := by rw [hr.heap.len]; exact hd
  have lv : ∀ o : Ob, (o.ren (mvf src dst)).live = o.live := fun o => by cases o <;> rfl
  generalize hm : M[src] = ms
  have hMs : M[src]? = some ms := by rw [List.getElem?_eq_getElem hsM, hm]
  have hM' : ∀ i, i ≠ dst → (M.set dst ms)[i]? = M[i]? := fun i hi => List.getElem?_set_ne (Ne.symm hi)
  have hMd : (M.set dst ms)[dst]? = some ms := by simp [hdM]
  have hf : ∀ i x, i ≠ dst → M[i]? = some x → (M.set dst ms)[mvf src dst i]? = some x := fun i x hi hx => by
    unfold mvf
    cases hb : Nat.beq i src with
    | true =>
      have := Nat.eq_of_beq_eq_true hb
      subst this
      rw [hMs] at hx
      simp only [cond_true]
      rw [hMd, hx]
    | false => simp only [cond_false]; rw [hM' i hi]; exact hx
  have hcase : ∀ (i : Nat) (q : Ob), (mvObs src dst o hp)[i]? = some q → (i = src ∧ q = .dead) ∨ (i = dst ∧ q = o.ren (mvf src dst)) ∨ (i ≠ src ∧ i ≠ dst ∧ ∃ q0, hp[i]? = some q0 ∧ q = q0.ren (mvf src dst)) := fun i q h => by
    unfold mvObs at h
    by_cases h1 : i = src
    · subst h1; simp [hs] at h; exact .inl ⟨rfl, h.symm⟩
    · rw [List.getElem?_set_ne (Ne.symm h1)] at h
      by_cases h2 : i = dst
      · subst h2; simp [hd] at h; exact .inr (.inl ⟨rfl, h.symm⟩)
      · rw [List.getElem?_set_ne (Ne.symm h2), List.getElem?_map] at h
        obtain ⟨q0, hq0, rfl⟩ := Option.map_eq_some_iff.1 h
        exact .inr (.inr ⟨h1, h2, q0, hq0, rfl⟩)
  have hback : ∀ (i : Nat) (q : Ob), hp[i]? = some q → q.live = true → ∃ (j : Nat) (q' : Ob), (mvObs src dst o hp)[j]? = some q' ∧ q'.live = true ∧ (M.set dst ms)[j]? = M[i]? := fun i q h hl => by
    by_cases h1 : i = src
    · subst h1
      refine ⟨dst, o.ren (mvf i dst), by unfold mvObs; rw [List.getElem?_set_ne hne]; simp [hd], by rw [lv]; exact hol, by rw [hMd, hMs]⟩
    · have h2 : i ≠ dst := fun e => by subst e; rw [h] at hdst; cases hdst; cases hl
      refine ⟨i, q.ren (mvf src dst), by unfold mvObs; rw [List.getElem?_set_ne (Ne.symm h1), List.getElem?_set_ne (Ne.symm h2), List.getElem?_map, h]; rfl, by rw [lv]; exact hl, hM' i h2⟩
  have hfwd : ∀ (i : Nat) (q : Ob), (mvObs src dst o hp)[i]? = some q → q.live = true → ∃ (j : Nat) (q0 : Ob), hp[j]? = some q0 ∧ q0.live = true ∧ (M.set dst ms)[i]? = M[j]? ∧ mvf src dst j = i ∧ j ≠ dst := fun i q h hl => by
    rcases hcase i q h with ⟨rfl, rfl⟩ | ⟨rfl, rfl⟩ | ⟨h1, h2, q0, hq0, rfl⟩
    · cases hl
    · exact ⟨src, o, ho, hol, by rw [hMd, hMs], by simp [mvf], hne⟩
    · refine ⟨i, q0, hq0, by rw [← lv]; exact hl, hM' i h2, ?_, h2⟩
      unfold mvf
      cases hb : Nat.beq i src with
      | true => exact absurd (Nat.eq_of_beq_eq_true hb) h1
      | false => rfl
  have hO : own (mvObs src dst o hp) (M.set dst ms) = own hp M := by
    funext b
    apply propext
    constructor
    · rintro ⟨i, q, c, h1, h2, h3⟩
      obtain ⟨j, q0, e1, e2, e3, _⟩ := hfwd i q h1 h2
      exact ⟨j, q0, c, e1, e2, by rw [← e3]; exact h3⟩
    · rintro ⟨i, q, c, h1, h2, h3⟩
      obtain ⟨j, q', e1, e2, e3⟩ := hback i q h1 h2
      exact ⟨j, q', c, e1, e2, by rw [e3]; exact h3⟩
  have hOZ : ownZ Z (mvObs src dst o hp) (M.set dst ms) = ownZ Z hp M := by unfold ownZ; rw [hO]
  have hobR : ∀ (q : Ob) (m : Option (Nat × Nat)), q.has dst = false → ObR w (ownZ Z hp M) M q m → ObR w (ownZ Z hp M) (M.set dst ms) (q.ren (mvf src dst)) m := fun q m hh h => by
    cases q with
    | box tb gs =>
      match m, h with
      | some (b, c), ⟨cs, e1, e2, hc⟩ =>
        refine ⟨cs, e1, by simp [G.renAll_eq, e2], fun j g hg => ?_⟩
        rw [G.renAll_eq, List.getElem?_map] at hg
        obtain ⟨g0, hg0, rfl⟩ := Option.map_eq_some_iff.1 hg
        obtain ⟨v, k1, k2, k3⟩ := hc j g0 hg0
        exact ⟨v, k1, k2, k3.renx hf (G.hasAny_spec hh j g0 hg0)⟩
    | map _ es => cases m <;> exact h
    | row t sz n ds => cases m <;> exact h
    | dead => trivial
  have hhas : ∀ (i : Nat) (q : Ob), hp[i]? = some q → q.has dst = false := fun i q h => by simpa using List.all_eq_true.1 hno q (List.mem_of_getElem? h)
  refine ⟨M.set dst ms, ⟨⟨by simp [mvObs, hr.heap.len], fun i q m h1 h2 => ?_, fun b hb => hr.heap.apart b (by rw [hO] at hb; exact hb), hr.heap.old, hr.heap.amb, fun i j oi oj b c c' hi hj li lj mi mj => ?_⟩, fun t g h => ?_, hr.size, hr.defers⟩, by rw [hO]; exact Stp.refl _ _, by simp, hM'⟩
  · rw [hOZ]
    rcases hcase i q h1 with ⟨rfl, rfl⟩ | ⟨rfl, rfl⟩ | ⟨e1, e2, q0, hq0, rfl⟩
    · trivial
    · rw [hMd] at h2; cases h2
      exact hobR o ms (hhas _ o ho) (hr.heap.obj _ o ms ho hMs)
    · rw [hM' i e2] at h2
      exact hobR q0 m (hhas i q0 hq0) (hr.heap.obj i q0 m hq0 h2)
  · obtain ⟨i0, o1, e1, e2, e3, e4, _⟩ := hfwd i oi hi li
    obtain ⟨j0, o2, f1, f2, f3, f4, _⟩ := hfwd j oj hj lj
    have := hr.heap.inj i0 j0 o1 o2 b c c' e1 f1 e2 f2 (by rw [← e3]; exact mi) (by rw [← f3]; exact mj)
    subst this
    exact e4.symm.trans f4
  · rw [hOZ]
    obtain ⟨g0, h0, h1⟩ := Fr.mv_get h
    obtain ⟨v, e1, e2⟩ := hr.fr t g0 h0
    refine ⟨v, e1, ?_⟩
    rcases h1 with rfl | ⟨h1, rfl⟩
    · exact .junk v
    · exact e2.renx hf h1
/-- An object is given another name. -/
theorem eo_move {l : List Oper} (src dst : Nat) {o : Ob} (hp2 : List Ob) (ho : hp[src]? = some o) (hol : o.live = true) (hdst : hp[dst]? = some .dead) (hno : (hp.all fun o => !o.has dst) = true) (hF : Nat.ble F dst = true) (hhp : mvObs src dst o hp = hp2) (k : EO P F N ops l Q (fr.mv src dst) hp2) : EO P F N ops l Q fr hp := by
  subst hhp
  intro Z w0 O0 M0 w M a hs ha hr
  obtain ⟨M', h1, h2, h3, h4⟩ := gh_move src dst ho hol hdst hno Z w M a hr
  refine k Z w0 O0 M0 w M' a (hs.trans h2) ⟨by rw [h3]; exact ha.le, fun i hi => ?_⟩ h1
  rw [h4 i (by have := Nat.le_of_ble_eq_true hF; omega)]
  exact ha.eq i hi
theorem ew_move {c : Code} {Q : GPost} (src dst : Nat) {o : Ob} (hp2 : List Ob) (ho : hp[src]? = some o) (hol : o.live = true) (hdst : hp[dst]? = some .dead) (hno : (hp.all fun o => !o.has dst) = true) (hF : Nat.ble F dst = true) (hhp : mvObs src dst o hp = hp2) (k : EW P F N c Q (fr.mv src dst) hp2) : EW P F N c Q fr hp := by
  subst hhp
  intro Z w0 O0 M0 w M a hs ha hr
  obtain ⟨M', h1, h2, h3, h4⟩ := gh_move src dst ho hol hdst hno Z w M a hr
  refine k Z w0 O0 M0 w M' a (hs.trans h2) ⟨by rw [h3]; exact ha.le, fun i hi => ?_⟩ h1
  rw [h4 i (by have := Nat.le_of_ble_eq_true hF; omega)]
  exact ha.eq i hi
theorem j_move {c : Code} (src dst : Nat) {o : Ob} (hp2 : List Ob) (ho : hp[src]? = some o) (hol : o.live = true) (hdst : hp[dst]? = some .dead) (hno : (hp.all fun o => !o.has dst) = true) (hF : Nat.ble F dst = true) (hhp : mvObs src dst o hp = hp2) (k : St.holds P F N Q (.code c ks) (fr.mv src dst) hp2) : St.holds P F N Q (.code c ks) fr hp :=
  ew_move src dst hp2 ho hol hdst hno hF hhp k
/-- A name for later. -/
theorem gh_name (Z : Env) (w : World) (M : Mp) (a : Act) (hr : Rel Z hp M w fr a N) : Rel Z (hp ++ [.dead]) (M ++ [none]) w fr a N ∧ Stp w (own hp M) w (own (hp ++ [.dead]) (M ++ [none])) := by
  have hO : own (hp ++ [.dead]) (M ++ [none]) = own hp M := by
    funext b
    apply propext
    constructor
    · rintro ⟨i, o, c, h1, h2, h3⟩
      rcases getq_snoc h1 with ⟨hi, h4⟩ | ⟨_, rfl⟩
      · rcases getq_snoc h3 with ⟨_, h5⟩ | ⟨_, h5⟩
        · exact ⟨i, o, c, h4, h2, h5⟩
        · cases h5
      · cases h2
    · rintro ⟨i, o, c, h1, h2, h3⟩
      exact ⟨i, o, c, by rw [List.getElem?_append_left (List.getElem?_eq_some_iff.1 h1).1]; exact h1, h2, by rw [List.getElem?_append_left (Mp.lt h3)]; exact h3⟩
  have hst : Stp w (own hp M) w (own (hp ++ [.dead]) (M ++ [none])) := by rw [hO]; exact Stp.refl _ _
  have hM : ∀ i, i < M.length → (M ++ [none])[i]? = M[i]? := fun i hi => List.getElem?_append_left hi
  refine ⟨⟨⟨by simp [hr.heap.len], fun i o m h1 h2 => ?_, fun b hb => hr.heap.apart b (by rw [hO] at hb; exact hb), hr.heap.old, hr.heap.amb, fun i j oi oj b c c' hi hj li lj mi mj => ?_⟩, fun t g h => ?_, hr.size, hr.defers⟩, hst⟩
  · rcases getq_snoc h1 with ⟨hi, h3⟩ | ⟨_, rfl⟩
    · rw [hM i (by rw [hr.heap.len]; exact hi)] at h2
      have := hr.heap.obj i o m h3 h2
      exact this.move (k := M.length) (stp_z Z hst) hM this.bel fun _ _ _ _ => rfl
    · cases m <;> trivial
  · rcases getq_snoc hi with ⟨h1, h2⟩ | ⟨_, rfl⟩
    · rcases getq_snoc hj with ⟨h3, h4⟩ | ⟨_, rfl⟩
      · rw [hM i (by rw [hr.heap.len]; exact h1)] at mi
        rw [hM j (by rw [hr.heap.len]; exact h3)] at mj
        exact hr.heap.inj i j oi oj b c c' h2 h4 li lj mi mj
      · cases lj
    · cases li
  · obtain ⟨v, e1, e2⟩ := hr.fr t g h
    exact ⟨v, e1, e2.step (stp_z Z hst) hM⟩
theorem j_name {c : Code} (hF : F ≤ hp.length) (k : St.holds P F N Q (.code c ks) fr (hp ++ [.dead])) : St.holds P F N Q (.code c ks) fr hp := by
  intro Z w0 O0 M0 w M a hs ha hr
  obtain ⟨h1, h2⟩ := gh_name Z w M a hr
  exact k Z w0 O0 M0 w _ a (hs.trans h2) (ha.trans (F' := hp.length) ⟨by simp [hr.heap.len], fun i hi => List.getElem?_append_left (by rw [hr.heap.len]; exact hi)⟩ hF) h1
end
end Go.Gk
