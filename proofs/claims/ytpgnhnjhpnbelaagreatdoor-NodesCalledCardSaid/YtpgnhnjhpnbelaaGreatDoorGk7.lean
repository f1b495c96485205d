/-
  THE GHOST LOGIC, PART 7: elements, slices, rows that grow.
-/
import Derived.Test.YtpgnhnjhpnbelaaGreatDoorGk6
set_option linter.unusedVariables false
set_option linter.unusedSimpArgs false
namespace Go.Gk

section
variable {P : Program} {Γ : TypeId → Option TI} {F N : Nat} {fr : Fr} {hp : List Ob} {g : G} {Q : GPost} {ops : Array Oper} {rest : List Oper}
variable {d : Tmp} {ty : TypeId} {pos : String} {after : Array Edge}

theorem asNat {k : Int} {i n : Nat} (hk : k = (i : Int)) (hi : i < n) : 0 ≤ k ∧ k < (n : Int) := by omega

/-- The address of an element of a slice that is only read. -/
theorem eo_elem (hΓ : TOK P Γ) {t e : TypeId} {i1 i2 : TI} {x y : Operand} {n : Nat} {xs ys : List D} {kd : IntKind} {k : Int} (i : Nat) (h1 : Γ t = some i1) (h1' : i1.desc = .slice e) (h2 : Γ e = some i2) (hx : fr.ev x = some (.d (.ro n xs)))
    (hy : fr.ev y = some (.d (.v (.int kd k)))) (hk : k = (i : Int)) (hi : i < n) (hys : ∀ j d, ys[j]? = some d → xs[i * i2.size + j]? = some d) (hne : ys ≠ []) (hd : Nat.blt d N = true)
    (kk : EO P F N ops rest Q ((d, .rp ys) :: fr) hp) : EO P F N ops (⟨some d, .indexAddr t x y, ty, pos, after, none⟩ :: rest) Q fr hp := by
  refine eo_p hd (fun Z w M a hr => ?_) kk
  obtain ⟨u1, _⟩ := hΓ t _ h1
  rw [h1'] at u1
  have hs := run_size' (P := P) (w := w) hΓ h2
  have hvx := hr.ev hx
  simp only [execOp, hr.ev_v hy]
  generalize a.eval x = vx at hvx
  subst hk
  cases hvx with
  | d hd =>
    cases hd with
    | nil => omega
    | ro _ _ b off cap vs hb hO hn hm hc hv =>
      refine ⟨.pointer (some ⟨b, off + i * i2.size, none⟩), ?_, .rp (fun j => vs (i * i2.size + j)) hb hO (fun j d hd => ?_) (fun j d hd => hv _ _ (hys j d hd))⟩
      · have : (0 : Int) ≤ (i : Int) ∧ (i : Int) < (n : Int) := by omega
        simp [Instr.indexAt, asIntOf, run_underlying u1, hs, this, Addr.add_lit, hi]
      · rw [Nat.add_assoc]
        exact hc _ _ (hys j d hd)

/-- The address of an element of a row. -/
theorem eo_elemRow (hΓ : TOK P Γ) {t e : TypeId} {i1 i2 : TI} {x y : Operand} {n id : Nat} {kd : IntKind} {k : Int} (i : Nat) (h1 : Γ t = some i1) (h1' : i1.desc = .slice e) (h2 : Γ e = some i2) (hx : fr.ev x = some (.sl id n))
    (hy : fr.ev y = some (.d (.v (.int kd k)))) (hk : k = (i : Int)) (hi : i < n) (hd : Nat.blt d N = true)
    (kk : EO P F N ops rest Q ((d, .ptr id (i * i2.size)) :: fr) hp) : EO P F N ops (⟨some d, .indexAddr t x y, ty, pos, after, none⟩ :: rest) Q fr hp := by
  refine eo_p hd (fun Z w M a hr => ?_) kk
  obtain ⟨u1, _⟩ := hΓ t _ h1
  rw [h1'] at u1
  have hs := run_size' (P := P) (w := w) hΓ h2
  have hvx := hr.ev hx
  simp only [execOp, hr.ev_v hy]
  generalize a.eval x = vx at hvx
  subst hk
  cases hvx with
  | slnil hM => omega
  | sl hM hn hm =>
    rename_i b c
    refine ⟨.pointer (some ⟨b, i * i2.size, none⟩), ?_, .ptr hM⟩
    have : (0 : Int) ≤ (i : Int) ∧ (i : Int) < (n : Int) := by omega
    simp [Instr.indexAt, asIntOf, run_underlying u1, hs, this, Addr.add_lit, hi]

/-- A load from a row, its cells told. -/
theorem eo_loadRow (hΓ : TOK P Γ) {t tb : TypeId} {i : TI} {x : Operand} {id off sz n : Nat} {ds ys : List D} (hi : Γ t = some i) (hx : fr.ev x = some (.ptr id off)) (ho : hp[id]? = some (.row tb sz n ds)) (hys : ∀ j d, ys[j]? = some d → ds[off + j]? = some d)
    (hg : loadD i ys 0 = some g) (hd : Nat.blt d N = true) (kk : EO P F N ops rest Q ((d, g) :: fr) hp) : EO P F N ops (⟨some d, .load t x, ty, pos, after, none⟩ :: rest) Q fr hp := by
  refine eo_p hd (fun Z w M a hr => ?_) kk
  have hvx := hr.ev hx
  simp only [execOp]
  generalize a.eval x = vx at hvx
  cases hvx with
  | ptr hM =>
    rename_i b c
    obtain ⟨_, cs, hb, _, _, _, hcr⟩ := hr.heap.obj id _ _ ho hM
    obtain ⟨hu, _⟩ := hΓ t i hi
    rw [loadD_eq] at hg
    have hcell : ∀ j d, ys[j]? = some d → ∃ v, w.cell? ⟨b, off + j, none⟩ = some v ∧ VD w (ownZ Z hp M) d v := fun j d hj => by
      obtain ⟨v, e1, e2⟩ := hcr _ d (hys j d hj)
      exact ⟨v, by rw [cell_of_row w b _ cs _ _ hb]; exact e1, e2⟩
    unfold loadG at hg
    cases hb' : TypeDesc.isAgg i.desc with
    | true =>
      rw [hb'] at hg
      cases hn : Nat.ble (0 + i.size) (ys.map G.d).length with
      | false => rw [hn] at hg; cases hg
      | true =>
        rw [hn] at hg
        cases hg
        have hle : i.size ≤ ys.length := by have := Nat.le_of_ble_eq_true hn; simpa using this
        have hin : ∀ j, (hj : j < i.size) → ys[j]? = some (ys[j]'(by omega)) := fun j hj => List.getElem?_eq_getElem (by omega)
        have hrun := run_loadCells (P := P) w ⟨b, off, none⟩ i.size (fun j => (w.cell? ⟨b, off + j, none⟩).getD undef) (fun j hj => by
          obtain ⟨v, e1, _⟩ := hcell j _ (hin j hj)
          rw [Addr.add_lit, e1]; rfl)
        refine ⟨_, by simp [Instr.loadAt, Instr.sureAddr, loadVar, run_isAgg' hu, hb', run_size' hΓ hi, hrun]; rfl, ?_⟩
        refine .agg (by simp; omega) fun j g v hg hv' => ?_
        rw [List.getElem?_take] at hg
        split at hg
        · rename_i hj
          simp only [List.drop_zero, List.getElem?_map] at hg
          obtain ⟨d, hd, rfl⟩ := Option.map_eq_some_iff.1 hg
          obtain ⟨u, e1, e2⟩ := hcell j d hd
          have : v = u := by simpa [hj, e1] using hv'.symm
          rw [this]
          exact .d e2
        · cases hg
    | false =>
      rw [hb'] at hg
      have hg' : (ys.map G.d)[0]? = some g := by rw [cond_false, head_drop] at hg; exact hg
      rw [List.getElem?_map] at hg'
      obtain ⟨d, hd, rfl⟩ := Option.map_eq_some_iff.1 hg'
      obtain ⟨u, e1, e2⟩ := hcell 0 d hd
      simp only [Nat.add_zero] at e1
      exact ⟨_, by simp [Instr.loadAt, Instr.sureAddr, loadVar, run_isAgg' hu, hb', e1], .d e2⟩

/-- A byte of a string. -/
theorem eo_byte (hΓ : TOK P Γ) {t : TypeId} {i1 : TI} {x y : Operand} {l : List UInt8} {c : UInt8} {kd : IntKind} {k : Int} (i : Nat) (h1 : Γ t = some i1) (h1' : i1.desc = .string) (hx : fr.ev x = some (S l)) (hy : fr.ev y = some (.d (.v (.int kd k)))) (hk : k = (i : Int))
    (hc : l[i]? = some c) (hd : Nat.blt d N = true) (kk : EO P F N ops rest Q ((d, .d (.v (.int .u8 c.toNat))) :: fr) hp) : EO P F N ops (⟨some d, .index t x y, ty, pos, after, none⟩ :: rest) Q fr hp := by
  refine eo_p hd (fun Z w M a hr => ?_) kk
  obtain ⟨u1, _⟩ := hΓ t _ h1
  rw [h1'] at u1
  subst hk
  have hlt : i < l.length := (List.getElem?_eq_some_iff.1 hc).1
  have hb : (⟨l.toArray⟩ : ByteArray)[i]? = some c := by
    have : (⟨l.toArray⟩ : ByteArray)[i]? = some ((⟨l.toArray⟩ : ByteArray)[i]'(show i < l.toArray.size by simpa using hlt)) := ByteArray.getElem?_lt' _ _ (show i < l.toArray.size by simpa using hlt)
    rw [this]
    have e := (List.getElem?_eq_some_iff.1 hc).2
    simp [ByteArray.getElem_eq_getElem_data, e]
  refine ⟨_, ?_, .d (.v _ rfl)⟩
  simp [execOp, hr.ev_v hx, hr.ev_v hy, Instr.index, asIntOf, run_underlying u1, hb]

/-- A slot is known less well. -/
def G.Le (g g' : G) : Prop := ∀ (w : World) (O : Nat → Prop) (M : Mp) (v : Value), VR w O M g v → VR w O M g' v
theorem G.Le.refl (g : G) : g.Le g := fun _ _ _ _ h => h
theorem G.Le.nil : G.Le (.d (.v (.slice none 0 0))) (.d (.ro 0 [])) := fun _ _ _ _ h => by rw [vr_v h]; exact .d .nil
def G.LeAll : List G → List G → Prop
  | [], [] => True
  | g :: r, g' :: r' => g.Le g' ∧ G.LeAll r r'
  | _, _ => False
theorem G.LeAll.spec : ∀ {l l' : List G}, G.LeAll l l' → l.length = l'.length ∧ ∀ (j : Nat) (g' : G), l'[j]? = some g' → ∃ g, l[j]? = some g ∧ g.Le g'
  | [], [], _ => ⟨rfl, fun j g h => by simp at h⟩
  | g :: r, g' :: r', h => by
    obtain ⟨h1, h2⟩ := G.LeAll.spec h.2
    refine ⟨by simp [h1], fun j g0 hj => ?_⟩
    cases j with
    | zero => simp at hj; subst hj; exact ⟨g, rfl, h.1⟩
    | succ j => exact h2 j g0 (by simpa using hj)
  | [], _ :: _, h => h.elim
  | _ :: _, [], h => h.elim
theorem G.Le.agg {l l' : List G} (h : G.LeAll l l') : G.Le (.agg l) (.agg l') := fun w O M v hv => by
  obtain ⟨h1, h2⟩ := h.spec
  cases hv with
  | agg hl hr => exact .agg (by omega) fun j g' v hg hv => let ⟨g, e, hle⟩ := h2 j g' hg; hle w O M v (hr j g v e hv)

theorem eo_weak {l : List Oper} (t : Nat) {g' : G} (hg : fr.get t = some g) (hle : g.Le g') (k : EO P F N ops l Q ((t, g') :: fr) hp) : EO P F N ops l Q fr hp := by
  intro Z w0 O0 M0 w M a hs ha hr
  refine k Z w0 O0 M0 w M a hs ha ⟨hr.heap, fun t' g0 h0 => ?_, hr.size, hr.defers⟩
  simp only [Fr.get] at h0
  cases hk : Nat.beq t t' with
  | true =>
    rw [hk] at h0
    have := Nat.eq_of_beq_eq_true hk
    subst this
    cases h0
    obtain ⟨v, h1, h2⟩ := hr.fr t g hg
    exact ⟨v, h1, hle _ _ _ _ h2⟩
  | false => rw [hk] at h0; exact hr.fr t' g0 h0

/-- Ghost steps: the world stays, the names may be read otherwise. -/
theorem eo_ghost {l : List Oper} {fr' : Fr} {hp' : List Ob} (hF : F ≤ hp.length) (h : ∀ Z w M a, Rel Z hp M w fr a N → ∃ M', Rel Z hp' M' w fr' a N ∧ Stp w (own hp M) w (own hp' M') ∧ Agr hp.length M M') (k : EO P F N ops l Q fr' hp') :
    EO P F N ops l Q fr hp := fun Z w0 O0 M0 w M a hs ha hr =>
  let ⟨M', h1, h2, h3⟩ := h Z w M a hr
  k Z w0 O0 M0 w M' a (hs.trans h2) (ha.trans h3 hF) h1

/-- A nil slice is made a row of one's own. -/
theorem gh_ownNil {te : TypeId} {sz : Nat} (t : Nat) (ht : fr.get t = some (.d (.v (.slice none 0 0)))) : ∀ Z w M a, Rel Z hp M w fr a N → ∃ M', Rel Z (hp ++ [.row te sz 0 []]) M' w ((t, .sl hp.length 0) :: fr) a N ∧ Stp w (own hp M) w (own (hp ++ [.row te sz 0 []]) M') ∧ Agr hp.length M M' := by
  intro Z w M a hr
  have hM : ∀ i, i < M.length → (M ++ [none])[i]? = M[i]? := fun i hi => List.getElem?_append_left hi
  have hown : ∀ b, own (hp ++ [.row te sz 0 []]) (M ++ [none]) b → own hp M b := by
    rintro b ⟨i, o, c, h1, h2, h3⟩
    rcases getq_snoc h3 with ⟨hi, h4⟩ | ⟨hi, h4⟩
    · rw [List.getElem?_append_left (by rw [← hr.heap.len]; exact hi)] at h1
      exact ⟨i, o, c, h1, h2, h4⟩
    · cases h4
  have hst : Stp w (own hp M) w (own (hp ++ [.row te sz 0 []]) (M ++ [none])) := ⟨Nat.le_refl _, fun _ _ _ => rfl, fun b _ h => hown b h, rfl, rfl, rfl⟩
  refine ⟨M ++ [none], ⟨⟨by simp [hr.heap.len], fun i o m h1 h2 => ?_, fun b hb hz => hr.heap.apart b (hown b hb) hz, hr.heap.old, hr.heap.amb, fun i j oi oj b c c' hi hj li lj mi mj => ?_⟩, fun t' g h => ?_, hr.size, hr.defers⟩, hst, ⟨by simp [hr.heap.len], fun i hi => hM i (by rw [hr.heap.len]; exact hi)⟩⟩
  · rcases getq_snoc h1 with ⟨hi, h3⟩ | ⟨hi, rfl⟩
    · rw [hM i (by rw [hr.heap.len]; exact hi)] at h2
      have := hr.heap.obj i o m h3 h2
      exact this.move (k := M.length) (stp_z Z hst) hM this.bel fun _ _ _ _ => rfl
    · subst hi
      rw [← hr.heap.len] at h2
      rcases getq_snoc h2 with ⟨hi, _⟩ | ⟨_, h⟩
      · omega
      · subst h; exact ⟨rfl, rfl⟩
  · rcases getq_snoc mi with ⟨hi1, hi2⟩ | ⟨_, hi2⟩
    · rcases getq_snoc mj with ⟨hj1, hj2⟩ | ⟨_, hj2⟩
      · rw [List.getElem?_append_left (by rw [← hr.heap.len]; exact hi1)] at hi
        rw [List.getElem?_append_left (by rw [← hr.heap.len]; exact hj1)] at hj
        exact hr.heap.inj i j oi oj b c c' hi hj li lj hi2 hj2
      · cases hj2
    · cases hi2
  · simp only [Fr.get] at h
    cases hk : Nat.beq t t' with
    | true =>
      rw [hk] at h
      have := Nat.eq_of_beq_eq_true hk
      subst this
      cases h
      obtain ⟨v, h1, h2⟩ := hr.fr t _ ht
      refine ⟨v, h1, ?_⟩
      rw [vr_v h2]
      exact .slnil (by rw [← hr.heap.len]; simp)
    | false =>
      rw [hk] at h
      obtain ⟨v, h1, h2⟩ := hr.fr t' g h
      exact ⟨v, h1, h2.step (stp_z Z hst) hM⟩

theorem eo_ownNil {l : List Oper} (te : TypeId) (sz t : Nat) (ht : fr.get t = some (.d (.v (.slice none 0 0)))) (hF : F ≤ hp.length) (k : EO P F N ops l Q ((t, .sl hp.length 0) :: fr) (hp ++ [.row te sz 0 []])) : EO P F N ops l Q fr hp :=
  eo_ghost hF (gh_ownNil t ht) k

/-- A row of one's own is let go: from now on it is data. -/
theorem gh_share {te : TypeId} {sz n id : Nat} {ds : List D} (t : Nat) (ht : fr.get t = some (.sl id n)) (ho : hp[id]? = some (.row te sz n ds)) : ∀ Z w M a, Rel Z hp M w fr a N →
    ∃ M', Rel Z (hp.set id .dead) M' w ((t, .d (.ro n ds)) :: fr) a N ∧ Stp w (own hp M) w (own (hp.set id .dead) M') ∧ Agr hp.length M M' := by
  intro Z w M a hr
  have hid : id < hp.length := (List.getElem?_eq_some_iff.1 ho).1
  have hold : ∀ i o, (hp.set id .dead)[i]? = some o → o.live = true → i ≠ id ∧ hp[i]? = some o := fun i o h1 h2 => by
    by_cases hi : i = id
    · subst hi; simp [hid] at h1; subst h1; cases h2
    · exact ⟨hi, by rw [List.getElem?_set_ne (Ne.symm hi)] at h1; exact h1⟩
  have hown : ∀ b, own (hp.set id .dead) M b → own hp M b := by
    rintro b ⟨i, o, c, h1, h2, h3⟩
    exact ⟨i, o, c, (hold i o h1 h2).2, h2, h3⟩
  have hst : Stp w (own hp M) w (own (hp.set id .dead) M) := ⟨Nat.le_refl _, fun _ _ _ => rfl, fun b _ h => hown b h, rfl, rfl, rfl⟩
  refine ⟨M, ⟨⟨by simp [hr.heap.len], fun i o m h1 h2 => ?_, fun b hb hz => hr.heap.apart b (hown b hb) hz, hr.heap.old, hr.heap.amb, fun i j oi oj b c c' hi hj li lj mi mj => ?_⟩, fun t' g h => ?_, hr.size, hr.defers⟩, hst, ⟨by rw [hr.heap.len]; exact Nat.le_refl _, fun _ _ => rfl⟩⟩
  · by_cases hi : i = id
    · subst hi; simp [hid] at h1; subst h1; cases m <;> trivial
    · rw [List.getElem?_set_ne (Ne.symm hi)] at h1
      have := hr.heap.obj i o m h1 h2
      exact this.move (k := M.length) (stp_z Z hst) (fun _ _ => rfl) this.bel fun _ _ _ _ => rfl
  · exact hr.heap.inj i j oi oj b c c' (hold i oi hi li).2 (hold j oj hj lj).2 li lj mi mj
  · simp only [Fr.get] at h
    cases hk : Nat.beq t t' with
    | true =>
      rw [hk] at h
      have := Nat.eq_of_beq_eq_true hk
      subst this
      cases h
      obtain ⟨v, h1, h2⟩ := hr.fr t _ ht
      refine ⟨v, h1, ?_⟩
      cases h2 with
      | slnil hM =>
        obtain ⟨rfl, _⟩ := hr.heap.obj id _ _ ho hM
        exact .d .nil
      | sl hM hn hm =>
        rename_i b c
        obtain ⟨_, cs, hb, _, _, _, hcr⟩ := hr.heap.obj id _ _ ho hM
        refine .d (.ro n ds b 0 c (fun j => cs.getD j undef) (Array.getElem?_eq_some_iff.1 hb).1 ?_ hn hm (fun j d hj => ?_) (fun j d hj => ?_))
        · rintro (⟨i, o, c', h3, h4, h5⟩ | hz)
          · obtain ⟨h6, h7⟩ := hold i o h3 h4
            exact h6 (hr.heap.inj i id o _ b c' c h7 ho h4 rfl h5 hM)
          · exact hr.heap.apart b ⟨id, _, c, ho, rfl, hM⟩ (Z.hv b hz)
        · obtain ⟨v, e1, _⟩ := hcr j d hj
          rw [Nat.zero_add, cell_of_row w b j cs _ _ hb]
          simp [e1]
        · obtain ⟨v, e1, e2⟩ := hcr j d hj
          simpa [e1] using e2.step (stp_z Z hst)
    | false =>
      rw [hk] at h
      obtain ⟨v, h1, h2⟩ := hr.fr t' g h
      exact ⟨v, h1, h2.step (stp_z Z hst) (fun _ _ => rfl)⟩

theorem eo_share {l : List Oper} {te : TypeId} {sz n id : Nat} {ds : List D} (t : Nat) (ht : fr.get t = some (.sl id n)) (ho : hp[id]? = some (.row te sz n ds)) (hF : F ≤ hp.length) (k : EO P F N ops l Q ((t, .d (.ro n ds)) :: fr) (hp.set id .dead)) : EO P F N ops l Q fr hp :=
  eo_ghost hF (gh_share t ht ho) k
end
end Go.Gk
