/-
  THE GHOST LOGIC, PART 10: regions that draw their order: one lexical walk serves every order.
-/
import Derived.Test.YtpgnhnjhpnbelaaGreatDoorGk9
import Derived.Still
set_option linter.unusedVariables false
set_option linter.unusedSimpArgs false
namespace Go.Gk

/-- AN OPERATION THAT TURNS NO OBJECT: new data may be made, functions that only compute may be called. -/
def Qt (P : Program) (N : Nat) (o : Oper) (fr : Fr) (hp : List Ob) (g : G) : Prop :=
  ∀ Z w M a, Rel Z hp M w fr a N → ∀ (K : Act → World → Prop) (Q : Exit → Act → World → Prop),
    (∀ v w', RelH Z hp M w' → VR w' (ownZ Z hp M) M g v → Stp w (own hp M) w' (own hp M) → K (a.put o.dst v) w') → o.wp P a w K Q

theorem Fr.get_cons (d : Nat) (g : G) (fr : Fr) : Fr.get ((d, g) :: fr) = fun t => if d = t then some g else fr.get t := by
  funext t
  simp only [Fr.get]
  by_cases h : d = t
  · subst h; simp
  · rw [if_neg h]
    cases hk : Nat.beq d t with
    | true => exact absurd (Nat.eq_of_beq_eq_true hk) h
    | false => rfl

abbrev FF := Nat → Option G
def FF.put (F : FF) : Option Tmp → G → FF
  | some d, g => fun t => if d = t then some g else F t
  | none, _ => F
theorem FF.put_comm (F : FF) {x y : Option Tmp} (g g' : G) (h : ∀ d, x = some d → y ≠ some d) : (F.put x g).put y g' = (F.put y g').put x g := by
  cases x with
  | none => cases y <;> rfl
  | some d =>
    cases y with
    | none => rfl
    | some e =>
      have hne : d ≠ e := fun he => h d rfl (he ▸ rfl)
      funext t
      simp only [FF.put]
      by_cases h1 : e = t
      · subst h1; simp [hne]
      · simp [h1]
theorem FF.put_other (F : FF) {x : Option Tmp} {g : G} {t : Nat} (h : ∀ d, x = some d → d ≠ t) : F.put x g t = F t := by
  cases x with
  | none => rfl
  | some d => simp [FF.put, h d rfl]

def FF.guard (F : FF) (ops : Array Oper) (j : Nat) (want : Bool) : Option Bool :=
  match ((ops[j]?).bind (·.dst)).bind F with
  | some (.d (.v (.bool b))) => some (b == want)
  | some (.tup []) => some false
  | _ => none

section
variable {P : Program} {N : Nat} {ops : Array Oper} {md : Region.Mode} {hp : List Ob}

/-- What an operation yields, by the slots that it looks at. -/
def Yg (P : Program) (N : Nat) (hp : List Ob) (ops : Array Oper) (o : Oper) (F : FF) (g : G) : Prop :=
  (∀ d, o.dst = some d → d < N) ∧
  ((∃ j want, o.guard = some (j, want) ∧ F.guard ops j want = some false ∧ g = .tup []) ∨
   ((o.guard = none ∨ ∃ j want, o.guard = some (j, want) ∧ F.guard ops j want = some true) ∧
    ∃ fr : Fr, (∀ t g', fr.get t = some g' → t ∈ o.looksAt ops ∧ F t = some g') ∧ Qt P N o fr hp g))

theorem Yg.of_same {o : Oper} {F F' : FF} {g : G} (h : Yg P N hp ops o F g) (hs : ∀ t, t ∈ o.looksAt ops → F' t = F t) : Yg P N hp ops o F' g := by
  have hg : ∀ j want, o.guard = some (j, want) → F'.guard ops j want = F.guard ops j want := fun j want hj => by
    unfold FF.guard
    cases ht : (ops[j]?).bind (·.dst) with
    | none => rfl
    | some t =>
      have : t ∈ o.looksAt ops := by simp [Oper.looksAt, hj, ht]
      simp [hs t this]
  refine ⟨h.1, ?_⟩
  rcases h.2 with ⟨j, want, h1, h2, h3⟩ | ⟨h1, fr, h2, h3⟩
  · exact .inl ⟨j, want, h1, by rw [hg j want h1]; exact h2, h3⟩
  · refine .inr ⟨h1.imp id fun ⟨j, want, e1, e2⟩ => ⟨j, want, e1, by rw [hg j want e1]; exact e2⟩, fr, fun t g' ht => ?_, h3⟩
    obtain ⟨e1, e2⟩ := h2 t g' ht
    exact ⟨e1, (hs t e1).trans e2⟩

def gOp (P : Program) (N : Nat) (hp : List Ob) (ops : Array Oper) (i : Nat) (K : FF → Prop) (F : FF) : Prop :=
  match ops[i]? with
  | none => K F
  | some o => ∃ g, Yg P N hp ops o F g ∧ K (F.put o.dst g)

theorem gOp_mono {i : Nat} {K K' : FF → Prop} {F : FF} (h : ∀ F, K F → K' F) (hh : gOp P N hp ops i K F) : gOp P N hp ops i K' F := by
  unfold gOp at *
  split
  · rename_i e; rw [e] at hh; exact h _ hh
  · rename_i e; rw [e] at hh; obtain ⟨g, h1, h2⟩ := hh; exact ⟨g, h1, h _ h2⟩

def anyG (P : Program) (N : Nat) (hp : List Ob) (md : Region.Mode) (ops : Array Oper) (QF : FF → Prop) : Nat → Array Bool → FF → Prop
  | 0, listed, F => Region.ready md ops listed = [] ∧ QF F
  | fuel + 1, listed, F => (Region.ready md ops listed = [] → QF F) ∧ ∀ i ∈ Region.ready md ops listed, gOp P N hp ops i (anyG P N hp md ops QF fuel (listed.setIfInBounds i true)) F

theorem gOp_put {j : Nat} {oi oj : Oper} {gi : G} (hj : ops[j]? = some oj) (hap : oi.apart ops oj = true) {K : FF → Prop} {F : FF} (hy : Yg P N hp ops oi F gi) (h : gOp P N hp ops j K (F.put oi.dst gi)) :
    gOp P N hp ops j (fun F' => Yg P N hp ops oi F' gi ∧ K (F'.put oi.dst gi)) F := by
  obtain ⟨h1, h2, h3⟩ := Oper.apart_spec hap
  unfold gOp at *
  simp only [hj] at *
  obtain ⟨g, hg, hK⟩ := h
  refine ⟨g, hg.of_same fun t ht => ?_, hy.of_same fun t ht => ?_, ?_⟩
  · rw [FF.put_other]; intro d hd e; subst e; exact h1 _ hd ht
  · rw [FF.put_other]; intro d hd e; subst e; exact h3 _ hd ht
  · rw [← FF.put_comm F gi g h2]; exact hK

theorem anyG_first {QF : FF → Prop} {i : Nat} {oi : Oper} {gi : G} (hi : ops[i]? = some oi) :
    ∀ (fuel : Nat) (listed : Array Bool) (F : FF),
      (∀ j oj, ops[j]? = some oj → j ≠ i → listed.getD j true = false → (∀ e ∈ oj.after, Region.binds md e = true → e.on ≠ i) → oi.apart ops oj = true) →
      i ∈ Region.ready md ops listed → Yg P N hp ops oi F gi →
      anyG P N hp md ops QF fuel (listed.setIfInBounds i true) (F.put oi.dst gi) → anyG P N hp md ops QF (fuel + 1) listed F := by
  intro fuel
  induction fuel with
  | zero =>
    intro listed F _ hr hy H
    refine ⟨fun h => (by rw [h] at hr; cases hr), fun j hj => ?_⟩
    by_cases hji : j = i
    · subst hji; unfold gOp; simp only [hi]; exact ⟨gi, hy, H⟩
    · have := ready_mono hj hji
      rw [H.1] at this
      cases this
  | succ fuel ih =>
    intro listed F hfree hr hy H
    refine ⟨fun h => (by rw [h] at hr; cases hr), fun j hj => ?_⟩
    by_cases hji : j = i
    · subst hji; unfold gOp; simp only [hi]; exact ⟨gi, hy, H⟩
    · have h1 := H.2 j (ready_mono hj hji)
      obtain ⟨hjun, oj, hoj, hall⟩ := mem_ready.1 hj
      have hnot : ∀ e ∈ oj.after, Region.binds md e = true → e.on ≠ i := fun e he hb heq => by
        have h1 := hall e he hb
        have h0 := (mem_ready.1 hr).1
        rw [heq] at h1
        rcases Nat.lt_or_ge i listed.size with h' | h'
        · simp [h'] at h0 h1; rw [h0] at h1; cases h1
        · simp [Array.getElem?_eq_none h'] at h1
      have h2 := gOp_put hoj (hfree j oj hoj hji hjun hnot) hy h1
      have hfree' : ∀ k ok, ops[k]? = some ok → k ≠ i → (listed.setIfInBounds j true).getD k true = false →
          (∀ e ∈ ok.after, Region.binds md e = true → e.on ≠ i) → oi.apart ops ok = true := fun k ok hk hki hun hno => by
        refine hfree k ok hk hki ?_ hno
        by_cases hjk : j = k
        · subst hjk; exact hjun
        · rw [getD_set_ne true hjk] at hun; exact hun
      refine gOp_mono (fun F' h3 => ih (listed.setIfInBounds j true) F' hfree' (ready_mono hr (Ne.symm hji)) h3.1 ?_) h2
      rw [Array.setIfInBounds_comm _ _ hji]
      exact h3.2

/-- The lexical walk, over frames as functions. -/
def lexG (P : Program) (N : Nat) (hp : List Ob) (ops : Array Oper) (QF : FF → Prop) : List Oper → FF → Prop
  | [], F => QF F
  | o :: rest, F => ∃ g, Yg P N hp ops o F g ∧ lexG P N hp ops QF rest (F.put o.dst g)

theorem anyG_lex {QF : FF → Prop} : ∀ (l : List Oper) (k : Nat) (listed : Array Bool) (F : FF), (∀ j, l[j]? = ops[k + j]?) →
    Region.lexFrom md ops l.length k listed = true → lexG P N hp ops QF l F → anyG P N hp md ops QF l.length listed F
  | [], _, _, _, _, hB, h => ⟨by simpa [Region.lexFrom] using hB, h⟩
  | o :: l, k, listed, F, hl, hB, h => by
    have h0 : ops[k]? = some o := by simpa using (hl 0).symm
    simp only [List.length_cons, Region.lexFrom, Bool.and_eq_true] at hB
    obtain ⟨⟨hr, hf⟩, hB'⟩ := hB
    obtain ⟨g, hy, hK⟩ := h
    exact anyG_first h0 l.length listed F (Region.free_spec h0 hf) (by simpa using hr) hy
      (anyG_lex l (k + 1) _ _ (fun j => by have := hl (j + 1); simpa [Nat.add_assoc, Nat.add_comm 1 j] using this) hB' hK)

/-- The relation, the frame as a function. -/
structure RelF (Z : Env) (hp : List Ob) (M : Mp) (w : World) (F : FF) (a : Act) (N : Nat) : Prop where
  heap : RelH Z hp M w
  fr : ∀ t g, F t = some g → ∃ v, a.tmps[t]? = some v ∧ VR w (ownZ Z hp M) M g v
  size : a.tmps.size = N
  defers : a.defers = []

theorem wpAny_of_anyG {Z : Env} {M : Mp} {QF : FF → Prop} {w0 : World} {Q : Exit → Act → World → Prop} (hQ : ∀ F a w, QF F → RelF Z hp M w F a N → Stp w0 (own hp M) w (own hp M) → Q .normal a w) :
    ∀ (fuel : Nat) (listed : Array Bool) (F : FF) (a : Act) (w : World), RelF Z hp M w F a N → Stp w0 (own hp M) w (own hp M) → anyG P N hp md ops QF fuel listed F → wpAny P md ops Q fuel listed a w
  | 0, _, F, a, w, hr, hs, h => ⟨h.1, hQ F a w h.2 hr hs⟩
  | fuel + 1, listed, F, a, w, hr, hs, h => ⟨fun h0 => hQ F a w (h.1 h0) hr hs, fun i hi => by
    have hh := h.2 i hi
    have ih := wpAny_of_anyG hQ fuel (listed.setIfInBounds i true)
    unfold gOp at hh
    unfold wpOp
    split
    · rename_i e; rw [e] at hh; exact ih F a w hr hs hh
    · rename_i o e
      rw [e] at hh
      obtain ⟨g, ⟨hd, hy⟩, hK⟩ := hh
      have put : ∀ v w', RelH Z hp M w' → VR w' (ownZ Z hp M) M g v → Stp w (own hp M) w' (own hp M) → RelF Z hp M w' (F.put o.dst g) (a.put o.dst v) N := fun v w' h1 h2 h3 => by
        cases hdst : o.dst with
        | none => exact ⟨h1, fun t g' hg => let ⟨v, e1, e2⟩ := hr.fr t g' hg; ⟨v, e1, e2.step (stp_z Z h3) (fun _ _ => rfl)⟩, hr.size, hr.defers⟩
        | some d =>
          refine ⟨h1, fun t g' hg => ?_, by simp [Act.put, hr.size], hr.defers⟩
          simp only [FF.put] at hg
          by_cases hdt : d = t
          · subst hdt
            simp at hg
            subst hg
            exact ⟨v, by simp [Act.put, hr.size, hd d hdst], h2⟩
          · rw [if_neg hdt] at hg
            obtain ⟨v', e1, e2⟩ := hr.fr t g' hg
            exact ⟨v', by simp only [Act.put]; rw [Array.getElem?_setIfInBounds_ne hdt]; exact e1, e2.step (stp_z Z h3) (fun _ _ => rfl)⟩
      have gd : ∀ j want b, F.guard ops j want = some b → (yielded ops a.tmps j == some want) = b := fun j want b hb => by
        unfold FF.guard at hb
        unfold yielded
        cases ht : (ops[j]?).bind (·.dst) with
        | none => rw [ht] at hb; simp at hb
        | some t =>
          rw [ht] at hb
          simp only [Option.bind_some] at hb ⊢
          cases hg : F t with
          | none => rw [hg] at hb; simp at hb
          | some g0 =>
            obtain ⟨v, hv, hvr⟩ := hr.fr t g0 hg
            rw [hg] at hb
            rw [hv]
            split at hb
            · rename_i b' e
              cases e
              rw [vr_v hvr]
              simpa using hb
            · rename_i e
              cases e
              cases hvr with
              | tup hl _ => simpa using hb
            · cases hb
      rcases hy with ⟨j, want, h1, h2, rfl⟩ | ⟨h1, fr, h2, h3⟩
      · have hw : Region.wanted o (yielded ops a.tmps) = false := by unfold Region.wanted; rw [h1]; exact gd j want false h2
        rw [hw]
        exact ih _ _ _ (put _ w hr.heap (.tup rfl fun _ _ _ h _ => by simp at h) (.refl _ _)) hs hK
      · have hw : Region.wanted o (yielded ops a.tmps) = true := by
          unfold Region.wanted
          rcases h1 with h1 | ⟨j, want, e1, e2⟩
          · rw [h1]
          · rw [e1]; exact gd j want true e2
        rw [hw]
        simp only [if_true]
        exact .inl (h3 Z w M a ⟨hr.heap, fun t g' hg => hr.fr t g' (h2 t g' hg).2, hr.size, hr.defers⟩ _ _ fun v w' r1 r2 r3 => ih _ _ _ (put v w' r1 r2 r3) (hs.trans r3) hK)⟩

/-- The lexical walk, over frames as lists. -/
def GL (P : Program) (N : Nat) (hp : List Ob) (ops : Array Oper) (Q : Fr → Prop) (l : List Oper) (fr : Fr) : Prop := lexG P N hp ops (fun F => ∃ fr' : Fr, fr'.get = F ∧ Q fr') l fr.get

theorem RelF.toRel {Z M w a} {fr : Fr} (h : RelF Z hp M w fr.get a N) : Rel Z hp M w fr a N := ⟨h.heap, h.fr, h.size, h.defers⟩

theorem ew_draw {F : Nat} {Q : GPost} {fr : Fr} {id : Nat} {l : List Oper} (hm : P.follows .mixedOrders = true) (hB : Region.lexB .any l.toArray = true) (h : GL P N hp l.toArray (fun fr' => Q .normal fr' hp) l fr) : EW P F N (.region id l.toArray true) Q fr hp := by
  intro Z w0 O0 M0 w M a hs ha hr
  simp only [Region.lexB, Bool.and_eq_true] at hB
  have hdr : Stp w (own hp M) w.drew (own hp M) := ⟨Nat.le_refl _, fun _ _ _ => rfl, fun _ _ h => h, rfl, rfl, rfl⟩
  have hr' : RelH Z hp M w.drew := by
    refine ⟨hr.heap.len, fun i o m h1 h2 => ?_, hr.heap.apart, hr.heap.old, hr.heap.amb_stp hdr, hr.heap.inj⟩
    have := hr.heap.obj i o m h1 h2
    exact this.move (k := M.length) (stp_z Z hdr) (fun _ _ => rfl) this.bel fun _ _ _ _ => rfl
  refine wp_region_any hm (wpAny_of_anyG (Z := Z) (M := M) (w0 := w) (hp := hp) (N := N) (QF := fun F => ∃ fr' : Fr, fr'.get = F ∧ Q .normal fr' hp) ?_ _ _ fr.get a w.drew ⟨hr', fun t g hg => let ⟨v, e1, e2⟩ := hr.fr t g hg; ⟨v, e1, e2.step (stp_z Z hdr) (fun _ _ => rfl)⟩, hr.size, hr.defers⟩ hdr ?_)
  · rintro F a' w' ⟨fr', rfl, hq⟩ h1 h2
    exact ⟨fr', hp, M, hq, h1.toRel, hs.trans h2, ha⟩
  · have := anyG_lex (P := P) (N := N) (hp := hp) (md := .any) l 0 (Array.replicate l.toArray.size false) fr.get (by simp) (by simpa using hB.2) h
    simpa using this

variable {rest : List Oper} {Q : Fr → Prop} {fr : Fr} {g : G} {d : Tmp} {op : Op} {ty : TypeId} {pos : String} {after : Array Edge}

theorem gl_nil (h : Q fr) : GL P N hp ops Q [] fr := ⟨fr, rfl, h⟩

def Fr.only (L : List Nat) : Fr → Fr
  | [] => []
  | (t, g) :: r => bif L.any (Nat.beq t) then (t, g) :: Fr.only L r else Fr.only L r
theorem Fr.only_get {L : List Nat} : ∀ {fr : Fr} {t : Nat} {g : G}, (fr.only L).get t = some g → t ∈ L ∧ fr.get t = some g
  | [], _, _, h => by cases h
  | (t0, g0) :: r, t, g, h => by
    simp only [Fr.only] at h
    cases hL : L.any (Nat.beq t0) with
    | true =>
      rw [hL] at h
      simp only [cond_true, Fr.get] at h ⊢
      cases hk : Nat.beq t0 t with
      | true =>
        rw [hk] at h
        have := Nat.eq_of_beq_eq_true hk
        subst this
        obtain ⟨x, hx, hx'⟩ := List.any_eq_true.1 hL
        have := Nat.eq_of_beq_eq_true hx'
        subst this
        exact ⟨hx, h⟩
      | false => rw [hk] at h; exact Fr.only_get h
    | false =>
      rw [hL] at h
      obtain ⟨h1, h2⟩ := Fr.only_get h
      refine ⟨h1, ?_⟩
      simp only [Fr.get]
      cases hk : Nat.beq t0 t with
      | true =>
        have := Nat.eq_of_beq_eq_true hk
        subst this
        have : L.any (Nat.beq t0) = true := List.any_eq_true.2 ⟨t0, h1, Nat.beq_refl _⟩
        rw [hL] at this
        cases this
      | false => exact h2

theorem gl_q (hd : Nat.blt d N = true) {gd : Option (Nat × Bool)} (hg : gd = none ∨ ∃ j want, gd = some (j, want) ∧ fr.guard ops j want = some true)
    (hq : Qt P N ⟨some d, op, ty, pos, after, gd⟩ (fr.only (Oper.looksAt ops ⟨some d, op, ty, pos, after, gd⟩)) hp g) (k : GL P N hp ops Q rest ((d, g) :: fr)) : GL P N hp ops Q (⟨some d, op, ty, pos, after, gd⟩ :: rest) fr := by
  refine ⟨g, ⟨fun d' h => by cases h; exact nblt.1 hd, .inr ⟨hg, _, fun t g' h => Fr.only_get h, hq⟩⟩, ?_⟩
  unfold GL at k
  rw [Fr.get_cons] at k
  exact k

theorem gl_skip {j : Nat} {want : Bool} (hd : Nat.blt d N = true) (hg : fr.guard ops j want = some false) (k : GL P N hp ops Q rest ((d, .tup []) :: fr)) : GL P N hp ops Q (⟨some d, op, ty, pos, after, some (j, want)⟩ :: rest) fr := by
  refine ⟨.tup [], ⟨fun d' h => by cases h; exact nblt.1 hd, .inl ⟨j, want, rfl, hg, rfl⟩⟩, ?_⟩
  unfold GL at k
  rw [Fr.get_cons] at k
  exact k

theorem gl_split {l : List Oper} (t : Tmp) {b : Bool} (hb : fr.get t = some (.d (.v (.bool b)))) (h1 : b = true → GL P N hp ops Q l ((t, .d (.v (.bool true))) :: fr)) (h2 : b = false → GL P N hp ops Q l ((t, .d (.v (.bool false))) :: fr)) : GL P N hp ops Q l fr := by
  have key : ∀ c, b = c → Fr.get ((t, .d (.v (.bool c))) :: fr) = fr.get := by
    rintro c rfl
    rw [Fr.get_cons]
    funext t'
    by_cases h : t = t'
    · subst h; simp [hb]
    · simp [h]
  unfold GL at *
  cases b
  · rw [← key false rfl]; exact h2 rfl
  · rw [← key true rfl]; exact h1 rfl

theorem gl_gsplit {dst : Option Tmp} {j : Nat} {want : Bool} {t : Tmp} {b : Bool} (hj : (ops[j]?).bind (·.dst) = some t) (hb : fr.get t = some (.d (.v (.bool b))))
    (h1 : b = true → GL P N hp ops Q (⟨dst, op, ty, pos, after, some (j, want)⟩ :: rest) ((t, .d (.v (.bool true))) :: fr)) (h2 : b = false → GL P N hp ops Q (⟨dst, op, ty, pos, after, some (j, want)⟩ :: rest) ((t, .d (.v (.bool false))) :: fr)) :
    GL P N hp ops Q (⟨dst, op, ty, pos, after, some (j, want)⟩ :: rest) fr := gl_split t hb h1 h2

theorem qt_p {o : Oper} (h : OpP P N o fr hp g) : Qt P N o fr hp g := fun Z w M a hr K Q hK => by
  obtain ⟨v, h1, h2⟩ := h Z w M a hr
  unfold Oper.wp
  rw [h1, Oper.upon_value]
  exact hK v w hr.heap h2 (.refl _ _)

variable {Γ : TypeId → Option TI}
theorem gl_x (hΓ : TOK P Γ) (h : pst Γ (fr.only (Oper.looksAt ops ⟨some d, op, ty, pos, after, none⟩)) hp op = some g) (hd : Nat.blt d N = true) (k : GL P N hp ops Q rest ((d, g) :: fr)) :
    GL P N hp ops Q (⟨some d, op, ty, pos, after, none⟩ :: rest) fr := gl_q hd (.inl rfl) (qt_p (pst_ok hΓ h)) k
theorem gl_xg (hΓ : TOK P Γ) {j : Nat} {want : Bool} (hg : fr.guard ops j want = some true) (h : pst Γ (fr.only (Oper.looksAt ops ⟨some d, op, ty, pos, after, some (j, want)⟩)) hp op = some g) (hd : Nat.blt d N = true) (k : GL P N hp ops Q rest ((d, g) :: fr)) :
    GL P N hp ops Q (⟨some d, op, ty, pos, after, some (j, want)⟩ :: rest) fr := gl_q hd (.inr ⟨j, want, rfl, hg⟩) (qt_p (pst_ok hΓ h)) k

variable {fop : Operand} {args : Array Operand} {ts : Array TypeId} {f : FuncId} {g1 g2 gs : List G} {r : G} {gd : Option (Nat × Bool)}
theorem qt_pure (hf : fr.ev fop = some (.fn (.func f) g1 g2)) (ha : args.toList.mapM fr.ev = some gs) (hcl : Callable P f) (hc : Pure P f (g1 ++ gs ++ g2) r) (hb : G.belAll 0 (g1 ++ gs ++ g2) = true) (hb' : r.bel 0 = true) :
    Qt P N ⟨some d, .call ⟨.value fop, args, ts⟩, ty, pos, after, gd⟩ fr hp r := fun Z w M a hr K Q hK => by
  obtain ⟨vs, hrun, l, rr⟩ := run_call (ts := ts) (ty := ty) (pos := pos) (after := after) (c := hp) hr hf ha hcl (some d)
  have hrun' : (execOp a.eval ⟨some d, .call ⟨.value fop, args, ts⟩, ty, pos, after, gd⟩).run P w = .ok (.enter f vs) w := hrun
  unfold Oper.wp
  rw [hrun', Oper.upon_enter]
  refine ((hc.ec hb hb' (R := fun g hp' => g = r ∧ hp' = hp) ⟨rfl, rfl⟩) Z w M vs hr.heap l rr).mono ?_
  rintro e w' ⟨v, g, hp', M', rfl, ⟨rfl, rfl⟩, h1, h2, h3, h4⟩
  have hMM : M' = M := by
    apply List.ext_getElem?
    intro i
    by_cases hi : i < hp'.length
    · exact h4.eq i hi
    · have e1 : M'[i]? = none := List.getElem?_eq_none (by rw [h1.len]; omega)
      have e2 : M[i]? = none := List.getElem?_eq_none (by rw [hr.heap.len]; omega)
      rw [e1, e2]
  subst hMM
  exact hK v w' h1 h2 h3

theorem gl_pure (hd : Nat.blt d N = true) (hf : (fr.only (Oper.looksAt ops ⟨some d, .call ⟨.value fop, args, ts⟩, ty, pos, after, none⟩)).ev fop = some (.fn (.func f) g1 g2))
    (ha : args.toList.mapM (fr.only (Oper.looksAt ops ⟨some d, .call ⟨.value fop, args, ts⟩, ty, pos, after, none⟩)).ev = some gs) (hcl : Callable P f) (hc : Pure P f (g1 ++ gs ++ g2) r) (hb : G.belAll 0 (g1 ++ gs ++ g2) = true) (hb' : r.bel 0 = true)
    (k : GL P N hp ops Q rest ((d, r) :: fr)) : GL P N hp ops Q (⟨some d, .call ⟨.value fop, args, ts⟩, ty, pos, after, none⟩ :: rest) fr := gl_q hd (.inl rfl) (qt_pure hf ha hcl hc hb hb') k
theorem gl_pureg {j : Nat} {want : Bool} (hg : fr.guard ops j want = some true) (hd : Nat.blt d N = true) (hf : (fr.only (Oper.looksAt ops ⟨some d, .call ⟨.value fop, args, ts⟩, ty, pos, after, some (j, want)⟩)).ev fop = some (.fn (.func f) g1 g2))
    (ha : args.toList.mapM (fr.only (Oper.looksAt ops ⟨some d, .call ⟨.value fop, args, ts⟩, ty, pos, after, some (j, want)⟩)).ev = some gs) (hcl : Callable P f) (hc : Pure P f (g1 ++ gs ++ g2) r) (hb : G.belAll 0 (g1 ++ gs ++ g2) = true) (hb' : r.bel 0 = true)
    (k : GL P N hp ops Q rest ((d, r) :: fr)) : GL P N hp ops Q (⟨some d, .call ⟨.value fop, args, ts⟩, ty, pos, after, some (j, want)⟩ :: rest) fr := gl_q hd (.inr ⟨j, want, rfl, hg⟩) (qt_pure hf ha hcl hc hb hb') k

theorem qt_lit (hΓ : TOK P Γ) {t e : TypeId} {len : Nat} {i1 i2 : TI} {parts : Array (Nat × Operand)} {pg : List (Nat × G)} {gs : List G} {ds : List D} (h1 : Γ t = some i1) (h1' : i1.desc = .slice e) (h2 : Γ e = some i2)
    (hz : (i2.zero.cells.toList.all (·.oneCell')) = true) (hz' : Nat.blt 0 i2.zero.cells.size = true) (hlen : Nat.ble (len * i2.size) 16777216 = true) (hlen' : Nat.ble len 16777216 = true) (hp' : evParts fr parts.toList = some pg) (hf : fillG (fun i => some (i * i2.size, i2.size)) (zerosG i2 len) pg = some gs) (hds : toDs gs = some ds) :
    Qt P N ⟨some d, .buildSlice t len parts, ty, pos, after, gd⟩ fr hp (.d (.ro len ds)) := fun Z w M a hr K Q hK => by
  obtain ⟨cs, r1, r2, r3, r4⟩ := run_buildSlice hΓ hr h1 h1' h2 hz hz' hlen hp' hf
  obtain ⟨f1, f2, f3⟩ := free_ok hr.heap (.cells cs e)
  have hgs := toDs_eq hds
  have hlen'' : len ≤ maxLen := by have := Nat.le_of_ble_eq_true hlen'; simp only [maxLen]; omega
  have hb := heap_alloc_new w (.cells cs e)
  have hrd : ∀ j dd, ds[j]? = some dd → ∃ v, cs[j]? = some v ∧ VD w (ownZ Z hp M) dd v := fun j dd hj => by
    obtain ⟨v, e1, e2, e3⟩ := r4 j (.d dd) (by rw [hgs, List.getElem?_map, hj]; rfl)
    cases e3 with
    | d h => exact ⟨v, e1, h⟩
  unfold Oper.wp
  have : (execOp a.eval ⟨some d, .buildSlice t len parts, ty, pos, after, gd⟩).run P w = .ok (.value (.slice (some ⟨w.heap.size, 0, none⟩) len len)) (w.alloc (.cells cs e)) := by simp [execOp, r1]
  rw [this, Oper.upon_value]
  refine hK _ _ f1 (.d (.ro len ds w.heap.size 0 len (fun j => cs.getD j undef) (by simp) f3 (Nat.le_refl _) hlen'' (fun j dd hj => ?_) (fun j dd hj => ?_))) f2
  · obtain ⟨v, e1, _⟩ := hrd j dd hj
    rw [Nat.zero_add, cell_of_row _ _ j cs _ _ hb]
    simp [e1]
  · obtain ⟨v, e1, e2⟩ := hrd j dd hj
    simpa [e1] using e2.step (stp_z Z f2)
end
end Go.Gk
