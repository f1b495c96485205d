/-
  THE GHOST LOGIC, PART 20: the machine: many plain steps at once; joins; loops that are read as functions.
-/
import Derived.Test.YtpgnhnjhpnbelaaGreatDoorGk19
import Derived.KernelRfl
set_option linter.unusedVariables false
set_option linter.unusedSimpArgs false
namespace Go.Gk

theorem Oper.wp_mono2 {P : Program} {o : Oper} {a : Act} {w : World} {K K' : Act → World → Prop} {Q Q' : Exit → Act → World → Prop} (h : ∀ a w, K a w → K' a w) (hq : ∀ e a w, e ≠ .normal → Q e a w → Q' e a w)
    (hh : o.wp P a w K Q) : o.wp P a w K' Q' := by
  unfold Oper.wp at *
  generalize (execOp a.eval o).run P w = r at *
  have hlet : LetsOut Q → LetsOut Q' := fun ⟨a, w, h⟩ => ⟨a, w, hq _ _ _ (by simp) h⟩
  cases r with
  | ok n w' =>
    cases n with
    | enter f args =>
      simp only [Oper.upon] at hh ⊢
      refine hh.mono fun e w' he => ?_
      cases e with
      | returned v => exact h _ _ he
      | panicked c => exact hq _ _ _ (by simp) he
      | outgrown => exact hlet he
    | row r args => exact Rows.mono hh fun v w' hv => h _ _ hv
    | value v => exact h _ _ hh
    | skip => exact h _ _ hh
    | defer d => exact h _ _ hh
    | _ => exact hh
  | halt hl w' =>
    cases hl with
    | panic v => exact hq _ _ _ (by simp) hh
    | _ => exact hh

theorem wpList_app {P : Program} {ops : Array Oper} {Q : Exit → Act → World → Prop} {Q1 : Exit → Act → World → Prop} {l2 : List Oper} (h1 : ∀ a w, Q1 .normal a w → wpList P ops Q l2 a w) (h2 : ∀ e a w, e ≠ .normal → Q1 e a w → Q e a w) :
    ∀ (l1 : List Oper) (a : Act) (w : World), wpList P ops Q1 l1 a w → wpList P ops Q (l1 ++ l2) a w
  | [], a, w, h => h1 a w h
  | o :: l1, a, w, h => by
    simp only [List.cons_append, wpList] at h ⊢
    split
    · rename_i hw
      rw [if_pos hw] at h
      rcases h with h | ⟨h, a', w', hl⟩
      · exact .inl (Oper.wp_mono2 (fun a w => wpList_app h1 h2 l1 a w) h2 h)
      · exact .inr ⟨h, a', w', h2 _ _ _ (by simp) hl⟩
    · rename_i hw
      rw [if_neg hw] at h
      exact wpList_app h1 h2 l1 _ _ h

/-! ### Continuations as data -/
inductive Kt where
  | seq (y : Code)
  | block (id : Nat)
  | mid (M : Fr → List Ob → Prop)
inductive St where
  | code (c : Code) (ks : List Kt)
  | ops (full : Array Oper) (l : List Oper) (ks : List Kt)
  | draw (full : Array Oper) (l : List Oper) (ks : List Kt)
  | fin (e : Exit) (ks : List Kt)

section
variable (P : Program) (F N : Nat) (Q : GPost)
def stk : List Kt → GPost
  | [] => Q
  | .seq y :: ks => fun e fr hp => match e with | .normal => EW P F N y (stk ks) fr hp | e => stk ks e fr hp
  | .block id :: ks => GBlock id (stk ks)
  | .mid M :: ks => fun e fr hp => match e with | .normal => M fr hp | e => stk ks e fr hp
def St.holds : St → Fr → List Ob → Prop
  | .code c ks, fr, hp => EW P F N c (stk P F N Q ks) fr hp
  | .ops full l ks, fr, hp => EO P F N full l (stk P F N Q ks) fr hp
  | .draw full l ks, fr, hp => GL P N hp full (fun fr' => stk P F N Q ks .normal fr' hp) l fr
  | .fin e ks, fr, hp => stk P F N Q ks e fr hp
end

/-! ### One step -/
def ostep (Γ : TypeId → Option TI) (N : Nat) (full : Array Oper) (fr : Fr) (hp : List Ob) : Oper → Option Fr
  | ⟨some d, op, _, _, _, none⟩ => bif Nat.blt d N then (pst Γ fr hp op).map fun g => (d, g) :: fr else none
  | ⟨some d, op, _, _, _, some (j, want)⟩ => match fr.guard full j want with
    | some true => bif Nat.blt d N then (pst Γ fr hp op).map fun g => (d, g) :: fr else none
    | some false => bif Nat.blt d N then some ((d, .tup []) :: fr) else none
    | none => none
  | ⟨none, _, _, _, _, some (j, want)⟩ => match fr.guard full j want with
    | some false => some fr
    | _ => none
  | _ => none
def gstep (Γ : TypeId → Option TI) (N : Nat) (full : Array Oper) (fr : Fr) (hp : List Ob) : Oper → Option Fr
  | ⟨some d, op, ty, pos, after, none⟩ => bif Nat.blt d N then (pst Γ (fr.only (Oper.looksAt full ⟨some d, op, ty, pos, after, none⟩)) hp op).map fun g => (d, g) :: fr else none
  | ⟨some d, op, ty, pos, after, some (j, want)⟩ => match fr.guard full j want with
    | some true => bif Nat.blt d N then (pst Γ (fr.only (Oper.looksAt full ⟨some d, op, ty, pos, after, some (j, want)⟩)) hp op).map fun g => (d, g) :: fr else none
    | some false => bif Nat.blt d N then some ((d, .tup []) :: fr) else none
    | none => none
  | _ => none
def mstep (Γ : TypeId → Option TI) (N : Nat) (hp : List Ob) : St → Fr → Option (St × Fr)
  | .code (.seq x y) ks, fr => some (.code x (.seq y :: ks), fr)
  | .code .skip ks, fr => some (.fin .normal ks, fr)
  | .code .ret ks, fr => some (.fin .ret ks, fr)
  | .code (.exit i) ks, fr => some (.fin (.exit i) ks, fr)
  | .code (.block i c) ks, fr => some (.code c (.block i :: ks), fr)
  | .code (.region _ ops false) ks, fr => some (.ops ops ops.toList ks, fr)
  | .code (.cond (.tmp t) x y) ks, fr => match fr.get t with
    | some (.d (.v (.bool true))) => some (.code x ks, fr)
    | some (.d (.v (.bool false))) => some (.code y ks, fr)
    | _ => none
  | .ops _ [] ks, fr => some (.fin .normal ks, fr)
  | .ops full (o :: rest) ks, fr => (ostep Γ N full fr hp o).map fun fr' => (.ops full rest ks, fr')
  | .draw _ [] ks, fr => some (.fin .normal ks, fr)
  | .draw full (o :: rest) ks, fr => (gstep Γ N full fr hp o).map fun fr' => (.draw full rest ks, fr')
  | .fin .normal (.seq y :: ks), fr => some (.code y ks, fr)
  | .fin .normal (.block _ :: ks), fr => some (.fin .normal ks, fr)
  | .fin .ret (.seq _ :: ks), fr => some (.fin .ret ks, fr)
  | .fin .ret (.block _ :: ks), fr => some (.fin .ret ks, fr)
  | .fin .ret (.mid _ :: ks), fr => some (.fin .ret ks, fr)
  | .fin (.exit i) (.seq _ :: ks), fr => some (.fin (.exit i) ks, fr)
  | .fin (.exit i) (.block j :: ks), fr => bif Nat.beq i j then some (.fin .normal ks, fr) else some (.fin (.exit i) ks, fr)
  | .fin (.exit i) (.mid _ :: ks), fr => some (.fin (.exit i) ks, fr)
  | _, _ => none

def mrun (Γ : TypeId → Option TI) (N : Nat) (hp : List Ob) : Nat → St → Fr → St × Fr
  | 0, st, fr => (st, fr)
  | n + 1, st, fr => match mstep Γ N hp st fr with
    | some (st', fr') => mrun Γ N hp n st' fr'
    | none => (st, fr)

section
variable {P : Program} {Γ : TypeId → Option TI} {F N : Nat} {Q : GPost} {fr fr' : Fr} {hp : List Ob} {ks : List Kt}

theorem eo_skip0 {ops : Array Oper} {rest : List Oper} {op : Op} {ty : TypeId} {pos : String} {after : Array Edge} {Q : GPost} {j : Nat} {want : Bool} (hg : fr.guard ops j want = some false) (h : EO P F N ops rest Q fr hp) :
    EO P F N ops (⟨none, op, ty, pos, after, some (j, want)⟩ :: rest) Q fr hp := by
  intro Z w0 O0 M0 w M a hs ha hr
  have hw : Region.wanted ⟨none, op, ty, pos, after, some (j, want)⟩ (yielded ops a.tmps) = false := guard_ok hr hg
  unfold wpList
  rw [hw]
  exact h Z w0 O0 M0 w M _ hs ha hr

theorem ostep_ok (hΓ : TOK P Γ) {full : Array Oper} {o : Oper} {rest : List Oper} {Q : GPost} (h : ostep Γ N full fr hp o = some fr') (k : EO P F N full rest Q fr' hp) : EO P F N full (o :: rest) Q fr hp := by
  unfold ostep at h
  split at h
  · rename_i d op ty pos after
    cases hd : Nat.blt d N with
    | false => rw [hd] at h; cases h
    | true =>
      rw [hd] at h
      obtain ⟨g, hg, rfl⟩ := Option.map_eq_some_iff.1 h
      exact eo_x hΓ hg hd k
  · rename_i d op ty pos after j want
    split at h
    · rename_i hgd
      cases hd : Nat.blt d N with
      | false => rw [hd] at h; cases h
      | true =>
        rw [hd] at h
        obtain ⟨g, hg, rfl⟩ := Option.map_eq_some_iff.1 h
        exact eo_guard hgd (eo_x hΓ hg hd k)
    · rename_i hgd
      cases hd : Nat.blt d N with
      | false => rw [hd] at h; cases h
      | true =>
        rw [hd] at h
        cases h
        exact eo_skip hgd hd k
    · cases h
  · rename_i j want
    split at h
    · rename_i hgd
      cases h
      exact eo_skip0 hgd k
    · cases h
  · cases h

theorem gstep_ok (hΓ : TOK P Γ) {full : Array Oper} {o : Oper} {rest : List Oper} {QF : Fr → Prop} (h : gstep Γ N full fr hp o = some fr') (k : GL P N hp full QF rest fr') : GL P N hp full QF (o :: rest) fr := by
  unfold gstep at h
  split at h
  · rename_i d op ty pos after
    cases hd : Nat.blt d N with
    | false => rw [hd] at h; cases h
    | true =>
      rw [hd] at h
      obtain ⟨g, hg, rfl⟩ := Option.map_eq_some_iff.1 h
      exact gl_x hΓ hg hd k
  · rename_i d op ty pos after j want
    split at h
    · rename_i hgd
      cases hd : Nat.blt d N with
      | false => rw [hd] at h; cases h
      | true =>
        rw [hd] at h
        obtain ⟨g, hg, rfl⟩ := Option.map_eq_some_iff.1 h
        exact gl_xg hΓ hgd hg hd k
    · rename_i hgd
      cases hd : Nat.blt d N with
      | false => rw [hd] at h; cases h
      | true =>
        rw [hd] at h
        cases h
        exact gl_skip hd hgd k
    · cases h
  · cases h

theorem mstep_ok (hΓ : TOK P Γ) {st st' : St} (h : mstep Γ N hp st fr = some (st', fr')) (k : St.holds P F N Q st' fr' hp) : St.holds P F N Q st fr hp := by
  unfold mstep at h
  split at h <;> try (first | (cases h; done) | cases h)
  · exact ew_seq k
  · exact ew_skip k
  · exact ew_ret k
  · exact ew_exit k
  · exact ew_block k
  · rename_i id ops ks
    have := ew_region (P := P) (F := F) (N := N) (Q := stk P F N Q ks) (fr := fr) (hp := hp) (id := id) (l := ops.toList)
    simp only [Array.toArray_toList] at this
    exact this k
  · split at h
    · rename_i hb; cases h; exact ew_condT hb k
    · rename_i hb; cases h; exact ew_condF hb k
    · cases h
  · exact eo_nil k
  · obtain ⟨f, hf, e⟩ := Option.map_eq_some_iff.1 h
    cases e
    exact ostep_ok hΓ hf k
  · exact gl_nil k
  · obtain ⟨f, hf, e⟩ := Option.map_eq_some_iff.1 h
    cases e
    exact gstep_ok hΓ hf k
  · exact k
  · exact k
  · exact k
  · exact k
  · exact k
  · exact k
  · rename_i i j ks
    cases hb : Nat.beq i j with
    | true =>
      rw [hb] at h; cases h
      show GBlock j (stk P F N Q ks) (.exit i) fr hp
      simp only [GBlock, hb]
      exact k
    | false =>
      rw [hb] at h; cases h
      show GBlock j (stk P F N Q ks) (.exit i) fr hp
      simp only [GBlock, hb]
      exact k
  · exact k

/-- MANY STEPS. -/
theorem go (hΓ : TOK P Γ) : ∀ (n : Nat) {st st' : St} {fr fr' : Fr}, mrun Γ N hp n st fr = (st', fr') → St.holds P F N Q st' fr' hp → St.holds P F N Q st fr hp
  | 0, st, st', fr, fr', h, k => by cases h; exact k
  | n + 1, st, st', fr, fr', h, k => by
    unfold mrun at h
    split at h
    · rename_i st1 fr1 h1
      exact mstep_ok hΓ h1 (go hΓ n h k)
    · cases h; exact k
theorem go_ops (hΓ : TOK P Γ) (n : Nat) {full : Array Oper} {l : List Oper} {st' : St} (h : mrun Γ N hp n (.ops full l ks) fr = (st', fr')) (k : St.holds P F N Q st' fr' hp) : EO P F N full l (stk P F N Q ks) fr hp := go (st := .ops full l ks) hΓ n h k
theorem go_draw (hΓ : TOK P Γ) (n : Nat) {full : Array Oper} {l : List Oper} {st' : St} (h : mrun Γ N hp n (.draw full l ks) fr = (st', fr')) (k : St.holds P F N Q st' fr' hp) : GL P N hp full (fun fr' => stk P F N Q ks .normal fr' hp) l fr := go (st := .draw full l ks) hΓ n h k
theorem go_code (hΓ : TOK P Γ) (n : Nat) {c : Code} {st' : St} (h : mrun Γ N hp n (.code c ks) fr = (st', fr')) (k : St.holds P F N Q st' fr' hp) : EW P F N c (stk P F N Q ks) fr hp := go (st := .code c ks) hΓ n h k
/-- The beginning. -/
theorem go_in {c : Code} (k : St.holds P F N Q (.code c []) fr hp) : EW P F N c Q fr hp := k

/-- A condition that is not told. -/
theorem j_cond {t : Tmp} {x y : Code} {b : Bool} (hb : fr.get t = some (.d (.v (.bool b)))) (h1 : b = true → St.holds P F N Q (.code x ks) fr hp) (h2 : b = false → St.holds P F N Q (.code y ks) fr hp) : St.holds P F N Q (.code (.cond (.tmp t) x y) ks) fr hp :=
  ew_cond hb h1 h2
theorem j_condT {t : Tmp} {x y : Code} {b : Bool} (hb : fr.get t = some (.d (.v (.bool b)))) (e : b = true) (h1 : St.holds P F N Q (.code x ks) fr hp) : St.holds P F N Q (.code (.cond (.tmp t) x y) ks) fr hp :=
  ew_condT (get_b hb e) h1
theorem j_condF {t : Tmp} {x y : Code} {b : Bool} (hb : fr.get t = some (.d (.v (.bool b)))) (e : b = false) (h1 : St.holds P F N Q (.code y ks) fr hp) : St.holds P F N Q (.code (.cond (.tmp t) x y) ks) fr hp :=
  ew_condF (get_b hb e) h1
/-- A region that draws its order. -/
theorem j_draw {id : Nat} {ops : Array Oper} (hm : P.follows .mixedOrders = true) (hB : Region.lexB .any ops = true) (h : St.holds P F N Q (.draw ops ops.toList ks) fr hp) : St.holds P F N Q (.code (.region id ops true) ks) fr hp := by
  have := ew_draw (P := P) (F := F) (N := N) (Q := stk P F N Q ks) (fr := fr) (hp := hp) (id := id) (l := ops.toList) hm
  simp only [Array.toArray_toList] at this
  exact this hB h

/-! ### Joins -/
/-- What is known where ways meet: so much of the frame; so many of the objects. -/
def MidP (F : Nat) (fr1 : Fr) (ob1 : List Ob) : Fr → List Ob → Prop := fun fr' hp' => fr1.Sub fr' ∧ ∃ ex, hp' = ob1 ++ ex ∧ (ex = [] ∨ (HB ob1.length ob1 ∧ fr1.FB ob1.length ∧ F ≤ ob1.length))

theorem ew_weak {c : Code} {Q : GPost} {fr1 : Fr} {ob1 : List Ob} (hm : MidP F fr1 ob1 fr hp) (h : EW P F N c Q fr1 ob1) : EW P F N c Q fr hp := by
  obtain ⟨hs, ex, rfl, he | ⟨h1, h2, h3⟩⟩ := hm
  · subst he
    rw [List.append_nil]
    exact ew_sub fr1 hs h
  · exact ew_sub fr1 hs (ew_cut h1 h2 h3 h)
theorem eo_sub' {full : Array Oper} {l : List Oper} {Q : GPost} (fr2 : Fr) (hs : fr2.Sub fr) (h : EO P F N full l Q fr2 hp) : EO P F N full l Q fr hp :=
  fun Z w0 O0 M0 w M a hs' ha hr => h Z w0 O0 M0 w M a hs' ha (hr.sub hs)
theorem eo_cut' {full : Array Oper} {l : List Oper} {Q : GPost} {ex : List Ob} (hb : HB hp.length hp) (hf : fr.FB hp.length) (hF : F ≤ hp.length) (h : EO P F N full l Q fr hp) : EO P F N full l Q fr (hp ++ ex) :=
  fun Z w0 O0 M0 w M a hs ha hr => h Z w0 O0 M0 w _ a (stp_cut hs) (ha.cut hF (by rw [hr.heap.len]; simp)) (hr.cut hb hf)
theorem eo_weak' {full : Array Oper} {l : List Oper} {Q : GPost} {fr1 : Fr} {ob1 : List Ob} (hm : MidP F fr1 ob1 fr hp) (h : EO P F N full l Q fr1 ob1) : EO P F N full l Q fr hp := by
  obtain ⟨hs, ex, rfl, he | ⟨h1, h2, h3⟩⟩ := hm
  · subst he
    rw [List.append_nil]
    exact eo_sub' fr1 hs h
  · exact eo_sub' fr1 hs (eo_cut' h1 h2 h3 h)

/-- Ways of a piece of code meet. -/
theorem j_cut {c y : Code} (fr1 : Fr) (ob1 : List Ob) (h1 : St.holds P F N Q (.code c (.mid (MidP F fr1 ob1) :: ks)) fr hp) (h2 : St.holds P F N Q (.code y ks) fr1 ob1) : St.holds P F N Q (.code c (.seq y :: ks)) fr hp := by
  refine ew_mono (Q := stk P F N Q (.mid (MidP F fr1 ob1) :: ks)) h1 fun e fr' hp' h => ?_
  cases e with
  | normal => exact ew_weak h h2
  | _ => exact h
/-- Less is known from here on. -/
theorem j_weak {c : Code} (fr1 : Fr) (ob1 : List Ob) (hm : MidP F fr1 ob1 fr hp) (h : St.holds P F N Q (.code c ks) fr1 ob1) : St.holds P F N Q (.code c ks) fr hp := ew_weak hm h

theorem eo_app {full : Array Oper} {Q Q1 : GPost} {l1 l2 : List Oper} (h1 : EO P F N full l1 Q1 fr hp) (h2 : ∀ fr' hp', Q1 .normal fr' hp' → EO P F N full l2 Q fr' hp') (h3 : ∀ e fr' hp', e ≠ .normal → Q1 e fr' hp' → Q e fr' hp') : EO P F N full (l1 ++ l2) Q fr hp := by
  intro Z w0 O0 M0 w M a hs ha hr
  refine wpList_app (Q1 := Post Z F N Q1 w0 O0 M0) ?_ ?_ l1 a w (h1 Z w0 O0 M0 w M a hs ha hr)
  · rintro a w ⟨fr', hp', M', hq, r1, r2, r3⟩
    exact h2 fr' hp' hq Z w0 O0 M0 w M' a r2 r3 r1
  · rintro e a w he ⟨fr', hp', M', hq, r⟩
    exact ⟨fr', hp', M', h3 _ _ _ he hq, r⟩
/-- Ways of a row of operations meet. -/
theorem o_cut (n : Nat) {full : Array Oper} {l : List Oper} (fr1 : Fr) (ob1 : List Ob) (h1 : St.holds P F N Q (.ops full (l.take n) (.mid (MidP F fr1 ob1) :: ks)) fr hp) (h2 : EO P F N full (l.drop n) (stk P F N Q ks) fr1 ob1) :
    EO P F N full l (stk P F N Q ks) fr hp := by
  have := eo_app (P := P) (F := F) (N := N) (full := full) (Q := stk P F N Q ks) (Q1 := stk P F N Q (.mid (MidP F fr1 ob1) :: ks)) (l1 := l.take n) (l2 := l.drop n) (fr := fr) (hp := hp) h1 (fun fr' hp' h => eo_weak' h h2) (fun e fr' hp' he h => by cases e <;> first | exact absurd rfl he | exact h)
  rwa [List.take_append_drop] at this

theorem lexG_app {ops : Array Oper} {QF QF1 : FF → Prop} {l2 : List Oper} (h2 : ∀ F, QF1 F → lexG P N hp ops QF l2 F) : ∀ (l1 : List Oper) (F : FF), lexG P N hp ops QF1 l1 F → lexG P N hp ops QF (l1 ++ l2) F
  | [], F, h => h2 F h
  | o :: l1, F, ⟨g, hy, h⟩ => ⟨g, hy, lexG_app h2 l1 _ h⟩
theorem gl_app {ops : Array Oper} {QF QF1 : Fr → Prop} {l1 l2 : List Oper} (h1 : GL P N hp ops QF1 l1 fr) (h2 : ∀ fr', QF1 fr' → GL P N hp ops QF l2 fr') : GL P N hp ops QF (l1 ++ l2) fr :=
  lexG_app (fun F ⟨fr', e, hq⟩ => e ▸ h2 fr' hq) l1 fr.get h1
theorem Fr.Sub.refl' (fr : Fr) (h : ∀ t g, fr.get t = some g → fr.get t = some g) : True := trivial
theorem lexG_sub {ops : Array Oper} {QF : FF → Prop} (hQ : ∀ F F' : FF, (∀ t g, F t = some g → F' t = some g) → QF F → QF F') : ∀ (l : List Oper) (F F' : FF), (∀ t g, F t = some g → F' t = some g) → lexG P N hp ops QF l F → lexG P N hp ops QF l F'
  | [], F, F', hs, h => hQ F F' hs h
  | o :: l, F, F', hs, ⟨g, ⟨hd, hy⟩, h⟩ => by
    have gd : ∀ j want b, F.guard ops j want = some b → F'.guard ops j want = some b := fun j want b hb => by
      unfold FF.guard at *
      cases ht : (ops[j]?).bind (·.dst) with
      | none => rw [ht] at hb; simp at hb
      | some t =>
        rw [ht] at hb
        simp only [Option.bind_some] at hb ⊢
        cases hg : F t with
        | none => rw [hg] at hb; simp at hb
        | some g0 => rw [hs t g0 hg]; rw [hg] at hb; exact hb
    refine ⟨g, ⟨hd, ?_⟩, lexG_sub hQ l _ _ ?_ h⟩
    · rcases hy with ⟨j, want, h1, h2, h3⟩ | ⟨h1, fr, h2, h3⟩
      · exact .inl ⟨j, want, h1, gd _ _ _ h2, h3⟩
      · refine .inr ⟨h1.imp id fun ⟨j, want, e1, e2⟩ => ⟨j, want, e1, gd _ _ _ e2⟩, fr, fun t g' ht => ⟨(h2 t g' ht).1, hs _ _ (h2 t g' ht).2⟩, h3⟩
    · intro t g' ht
      cases hdst : o.dst with
      | none => rw [hdst] at ht; exact hs t g' ht
      | some d =>
        rw [hdst] at ht
        simp only [FF.put] at ht ⊢
        split
        · rename_i e; rw [if_pos e] at ht; exact ht
        · rename_i e; rw [if_neg e] at ht; exact hs t g' ht
end
end Go.Gk
