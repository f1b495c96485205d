/-
  THE GHOST LOGIC, PART 25: regions that draw their order and turn objects: what turns objects is ordered among itself; what only reads commutes.
-/
import Derived.Test.YtpgnhnjhpnbelaaGreatDoorGk24
set_option linter.unusedVariables false
set_option linter.unusedSimpArgs false
namespace Go.Gk

/-- AN OPERATION THAT MAY TURN OBJECTS. -/
def QtE (P : Program) (N : Nat) (o : Oper) (fr : Fr) (hp : List Ob) (g : G) (hp' : List Ob) : Prop :=
  ∀ Z w M a, Rel Z hp M w fr a N → ∀ (K : Act → World → Prop) (Q : Exit → Act → World → Prop),
    (∀ v w' M', RelH Z hp' M' w' → VR w' (ownZ Z hp' M') M' g v → Stp w (own hp M) w' (own hp' M') → Agr hp.length M M' → K (a.put o.dst v) w') → o.wp P a w K Q

/-- What stays: the objects that are told. -/
def Stays (hpL hp : List Ob) : Prop := ∀ (i : Nat) (o : Ob), hpL[i]? = some o → o.live = true → hp[i]? = some o

section
variable {P : Program} {N : Nat} {ops : Array Oper} {md : Region.Mode} {hpL : List Ob} {light heavy brk : Nat → Bool}

def Okd (F : FF) (ops : Array Oper) (o : Oper) : Prop := o.guard = none ∨ ∃ j want, o.guard = some (j, want) ∧ F.guard ops j want = some true
def YL (P : Program) (N : Nat) (hpL : List Ob) (lt : Bool) (ops : Array Oper) (o : Oper) (F : FF) (g : G) : Prop :=
  (∀ d, o.dst = some d → d < N) ∧ ((∃ j want, o.guard = some (j, want) ∧ F.guard ops j want = some false ∧ g = .tup []) ∨
    (Okd F ops o ∧ ∃ fr : Fr, (∀ t g', fr.get t = some g' → t ∈ o.looksAt ops ∧ F t = some g') ∧ ∀ hp, (lt = true → Stays hpL hp) → QtE P N o fr hp g hp))
def YH (P : Program) (N : Nat) (ops : Array Oper) (o : Oper) (F : FF) (hp : List Ob) (g : G) (hp' : List Ob) : Prop :=
  (∀ d, o.dst = some d → d < N) ∧ Okd F ops o ∧ hp.length ≤ hp'.length ∧ ∃ fr : Fr, (∀ t g', fr.get t = some g' → t ∈ o.looksAt ops ∧ F t = some g') ∧ QtE P N o fr hp g hp'
/-- One operation. -/
def YE (P : Program) (N : Nat) (hpL : List Ob) (light heavy brk : Nat → Bool) (ops : Array Oper) (i : Nat) (o : Oper) (F : FF) (hp : List Ob) (g : G) (hp' : List Ob) : Prop :=
  (YL P N hpL (light i) ops o F g ∧ hp' = hp) ∨ (heavy i = true ∧ YH P N ops o F hp g hp' ∧ (brk i = false → Stays hpL hp → Stays hpL hp'))

theorem Okd.of_same {o : Oper} {F F' : FF} (h : Okd F ops o) (hs : ∀ t, t ∈ o.looksAt ops → F' t = F t) : Okd F' ops o := by
  refine h.imp (fun h => h) fun ⟨j, want, h1, h2⟩ => ⟨j, want, h1, ?_⟩
  unfold FF.guard at *
  cases ht : (ops[j]?).bind (·.dst) with
  | none => rw [ht] at h2; simp at h2
  | some t =>
    rw [ht] at h2
    have : t ∈ o.looksAt ops := by simp [Oper.looksAt, h1, ht]
    simp only [Option.bind_some] at h2 ⊢
    rw [hs t this]; exact h2
theorem YL.of_same {lt : Bool} {o : Oper} {F F' : FF} {g : G} (h : YL P N hpL lt ops o F g) (hs : ∀ t, t ∈ o.looksAt ops → F' t = F t) : YL P N hpL lt ops o F' g := by
  refine ⟨h.1, ?_⟩
  rcases h.2 with ⟨j, want, h1, h2, h3⟩ | ⟨h1, fr, h2, h3⟩
  · refine .inl ⟨j, want, h1, ?_, h3⟩
    unfold FF.guard at *
    cases ht : (ops[j]?).bind (·.dst) with
    | none => rw [ht] at h2; simp at h2
    | some t =>
      rw [ht] at h2
      have : t ∈ o.looksAt ops := by simp [Oper.looksAt, h1, ht]
      simp only [Option.bind_some] at h2 ⊢
      rw [hs t this]; exact h2
  · exact .inr ⟨h1.of_same hs, fr, fun t g' ht => ⟨(h2 t g' ht).1, (hs t (h2 t g' ht).1).trans (h2 t g' ht).2⟩, h3⟩
theorem YH.of_same {o : Oper} {F F' : FF} {hp hp' : List Ob} {g : G} (h : YH P N ops o F hp g hp') (hs : ∀ t, t ∈ o.looksAt ops → F' t = F t) : YH P N ops o F' hp g hp' := by
  obtain ⟨h0, h1, hl, fr, h2, h3⟩ := h
  exact ⟨h0, h1.of_same hs, hl, fr, fun t g' ht => ⟨(h2 t g' ht).1, (hs t (h2 t g' ht).1).trans (h2 t g' ht).2⟩, h3⟩

def gOpE (P : Program) (N : Nat) (hpL : List Ob) (light heavy brk : Nat → Bool) (ops : Array Oper) (i : Nat) (K : FF → List Ob → Prop) (F : FF) (hp : List Ob) : Prop :=
  match ops[i]? with
  | none => K F hp
  | some o => ∃ g hp', YE P N hpL light heavy brk ops i o F hp g hp' ∧ (light i = true → Stays hpL hp) ∧ K (F.put o.dst g) hp'

def anyE (P : Program) (N : Nat) (hpL : List Ob) (light heavy brk : Nat → Bool) (md : Region.Mode) (ops : Array Oper) (QF : FF → List Ob → Prop) : Nat → Array Bool → FF → List Ob → Prop
  | 0, listed, F, hp => Region.ready md ops listed = [] ∧ QF F hp
  | fuel + 1, listed, F, hp => (Region.ready md ops listed = [] → QF F hp) ∧ ∀ i ∈ Region.ready md ops listed, gOpE P N hpL light heavy brk ops i (anyE P N hpL light heavy brk md ops QF fuel (listed.setIfInBounds i true)) F hp

/-- i is listed before j can be. -/
inductive Bef (md : Region.Mode) (ops : Array Oper) (i : Nat) : Nat → Prop
  | here {j : Nat} {o : Oper} {e : Edge} (ho : ops[j]? = some o) (he : e ∈ o.after) (hb : Region.binds md e = true) (h : e.on = i) : Bef md ops i j
  | far {j : Nat} {o : Oper} {e : Edge} (ho : ops[j]? = some o) (he : e ∈ o.after) (hb : Region.binds md e = true) (h : Bef md ops i e.on) : Bef md ops i j
def Shut (md : Region.Mode) (ops : Array Oper) (listed : Array Bool) : Prop := ∀ (k : Nat) (o : Oper), listed.getD k false = true → ops[k]? = some o → ∀ e ∈ o.after, Region.binds md e = true → listed.getD e.on false = true
theorem Bef.listed {i j : Nat} {listed : Array Bool} (h : Bef md ops i j) (hs : Shut md ops listed) : (∀ o, ops[j]? = some o → ∀ e ∈ o.after, Region.binds md e = true → listed.getD e.on false = true) → listed.getD i false = true := by
  induction h with
  | here ho he hb h => intro hr; rw [← h]; exact hr _ ho _ he hb
  | far ho he hb _ ih => intro hr; exact ih fun o' ho' e' he' hb' => hs _ o' (hr _ ho _ he hb) ho' e' he' hb'
theorem not_getD {listed : Array Bool} {i : Nat} (h : listed.getD i true = false) : listed.getD i false = true → False := by
  intro h'
  rcases Nat.lt_or_ge i listed.size with hl | hl
  · simp [hl] at h h'; rw [h] at h'; cases h'
  · simp [Array.getElem?_eq_none hl] at h
theorem shut_set {listed : Array Bool} {j : Nat} (hs : Shut md ops listed) (hj : j ∈ Region.ready md ops listed) : Shut md ops (listed.setIfInBounds j true) := by
  intro k o hk ho e he hb
  by_cases hjk : j = k
  · subst hjk
    obtain ⟨_, o', ho', hall⟩ := mem_ready.1 hj
    rw [ho] at ho'; cases ho'
    exact getD_set_true (hall e he hb)
  · rw [getD_set_ne false hjk] at hk
    exact getD_set_true (hs k o hk ho e he hb)

/-- As long as something that reads is not listed, what it reads stays. -/
def Keeps (hpL : List Ob) (light : Nat → Bool) (listed : Array Bool) (hp : List Ob) : Prop := (∃ k, light k = true ∧ listed.getD k true = false) → Stays hpL hp

structure Ordered (md : Region.Mode) (ops : Array Oper) (light heavy brk : Nat → Bool) : Prop where
  hh : ∀ i j : Nat, i < j → heavy i = true → heavy j = true → j < ops.size → Bef md ops i j
  lb : ∀ i j : Nat, light i = true → brk j = true → i < ops.size → j < ops.size → Bef md ops i j

theorem unlisted_lt {listed : Array Bool} {k : Nat} (hsz : listed.size = ops.size) (h : listed.getD k true = false) : k < ops.size := by
  rcases Nat.lt_or_ge k listed.size with hl | hl
  · omega
  · simp [Array.getElem?_eq_none hl] at h
theorem keeps_set {hp hp' : List Ob} {listed : Array Bool} {j : Nat} (hO : Ordered md ops light heavy brk) (hsz : listed.size = ops.size) (hs : Shut md ops listed) (hj : j ∈ Region.ready md ops listed) (hk : Keeps hpL light listed hp) (hb : brk j = false → Stays hpL hp → Stays hpL hp') : Keeps hpL light (listed.setIfInBounds j true) hp' := by
  rintro ⟨k, hl, hu⟩
  have hne : j ≠ k := fun e => by
    subst e
    have hlt := unlisted_lt (ops := ops) (by simpa using hsz) hu
    simp [hsz, hlt] at hu
  rw [getD_set_ne true hne] at hu
  cases hbj : brk j with
  | false => exact hb hbj (hk ⟨k, hl, hu⟩)
  | true =>
    exfalso
    have hjl : j < ops.size := by
      obtain ⟨_, o, ho, _⟩ := mem_ready.1 hj
      exact (Array.getElem?_eq_some_iff.1 ho).1
    obtain ⟨_, o, ho, hall⟩ := mem_ready.1 hj
    exact not_getD hu ((hO.lb k j hl hbj (unlisted_lt hsz hu) hjl).listed hs fun o' ho' => by rw [ho] at ho'; cases ho'; exact hall)

theorem anyE_first {QF : FF → List Ob → Prop} {i : Nat} {oi : Oper} {gi : G} (hO : Ordered md ops light heavy brk) (hi : ops[i]? = some oi) :
    ∀ (fuel : Nat) (listed : Array Bool) (F : FF) (hp hp1 : List Ob), listed.size = ops.size → Shut md ops listed → (∀ j, j < i → listed.getD j true = true) → Keeps hpL light listed hp →
      (∀ j oj, ops[j]? = some oj → j ≠ i → listed.getD j true = false → (∀ e ∈ oj.after, Region.binds md e = true → e.on ≠ i) → oi.apart ops oj = true) →
      i ∈ Region.ready md ops listed → YE P N hpL light heavy brk ops i oi F hp gi hp1 →
      anyE P N hpL light heavy brk md ops QF fuel (listed.setIfInBounds i true) (F.put oi.dst gi) hp1 → anyE P N hpL light heavy brk md ops QF (fuel + 1) listed F hp := by
  intro fuel
  induction fuel with
  | zero =>
    intro listed F hp hp1 hsz hs hpre hk _ hr hy H
    refine ⟨fun h => (by rw [h] at hr; cases hr), fun j hj => ?_⟩
    by_cases hji : j = i
    · subst hji; unfold gOpE; simp only [hi]; exact ⟨gi, hp1, hy, fun hl => hk ⟨j, hl, (mem_ready.1 hr).1⟩, H⟩
    · have := ready_mono hj hji
      rw [H.1] at this
      cases this
  | succ fuel ih =>
    intro listed F hp hp1 hsz hs hpre hk hfree hr hy H
    refine ⟨fun h => (by rw [h] at hr; cases hr), fun j hj => ?_⟩
    by_cases hji : j = i
    · subst hji; unfold gOpE; simp only [hi]; exact ⟨gi, hp1, hy, fun hl => hk ⟨j, hl, (mem_ready.1 hr).1⟩, H⟩
    · have h1 := H.2 j (ready_mono hj hji)
      obtain ⟨hjun, oj, hoj, hall⟩ := mem_ready.1 hj
      have hiun := (mem_ready.1 hr).1
      have hjl : j < ops.size := (Array.getElem?_eq_some_iff.1 hoj).1
      have hij : i < j := by
        rcases Nat.lt_or_ge j i with h | h
        · rw [hpre j h] at hjun; cases hjun
        · omega
      have hnot : ∀ e ∈ oj.after, Region.binds md e = true → e.on ≠ i := fun e he hb heq => not_getD hiun (heq ▸ hall e he hb)
      have hap := hfree j oj hoj hji hjun hnot
      obtain ⟨a1, a2, a3⟩ := Oper.apart_spec hap
      have hfree' : ∀ k ok, ops[k]? = some ok → k ≠ i → (listed.setIfInBounds j true).getD k true = false →
          (∀ e ∈ ok.after, Region.binds md e = true → e.on ≠ i) → oi.apart ops ok = true := fun k ok hk' hki hun hno => by
        refine hfree k ok hk' hki ?_ hno
        by_cases hjk : j = k
        · subst hjk; exact hjun
        · rw [getD_set_ne true hjk] at hun; exact hun
      have hsz' : (listed.setIfInBounds j true).size = ops.size := by simpa using hsz
      have hpre' : ∀ k, k < i → (listed.setIfInBounds j true).getD k true = true := fun k hk' => by rw [getD_set_ne true (by omega)]; exact hpre k hk'
      unfold gOpE at h1 ⊢
      simp only [hoj] at h1 ⊢
      obtain ⟨gj, hpj, hyj, hst, hK⟩ := h1
      rw [Array.setIfInBounds_comm _ _ (Ne.symm hji), FF.put_comm F gi gj a2] at hK
      have sj : ∀ t, t ∈ oj.looksAt ops → F t = (F.put oi.dst gi) t := fun t ht => by rw [FF.put_other]; intro d hd e; subst e; exact a1 _ hd ht
      have si : ∀ t, t ∈ oi.looksAt ops → (F.put oj.dst gj) t = F t := fun t ht => by rw [FF.put_other]; intro d hd e; subst e; exact a3 _ hd ht
      rcases hy with ⟨hyi, rfl⟩ | ⟨hhi, hyi, hbi⟩
      · rcases hyj with ⟨hyj, rfl⟩ | ⟨hhj, hyj, hbj⟩
        · exact ⟨gj, _, .inl ⟨hyj.of_same sj, rfl⟩, fun hl => hk ⟨j, hl, hjun⟩, ih _ _ _ _ hsz' (shut_set hs hj) hpre' (keeps_set hO hsz hs hj hk fun _ h => h) hfree' (ready_mono hr (Ne.symm hji)) (.inl ⟨hyi.of_same si, rfl⟩) hK⟩
        · exact ⟨gj, hpj, .inr ⟨hhj, hyj.of_same sj, hbj⟩, fun hl => hk ⟨j, hl, hjun⟩, ih _ _ _ _ hsz' (shut_set hs hj) hpre' (keeps_set hO hsz hs hj hk hbj) hfree' (ready_mono hr (Ne.symm hji)) (.inl ⟨hyi.of_same si, rfl⟩) hK⟩
      · rcases hyj with ⟨hyj, rfl⟩ | ⟨hhj, hyj, hbj⟩
        · exact ⟨gj, _, .inl ⟨hyj.of_same sj, rfl⟩, fun hl => hk ⟨j, hl, hjun⟩, ih _ _ _ _ hsz' (shut_set hs hj) hpre' (keeps_set hO hsz hs hj hk fun _ h => h) hfree' (ready_mono hr (Ne.symm hji)) (.inr ⟨hhi, hyi.of_same si, hbi⟩) hK⟩
        · exfalso
          exact not_getD hiun ((hO.hh i j hij hhi hhj hjl).listed hs fun o' ho' => by rw [hoj] at ho'; cases ho'; exact hall)

/-- The lexical walk. -/
def lexE (P : Program) (N : Nat) (hpL : List Ob) (light heavy brk : Nat → Bool) (ops : Array Oper) (QF : FF → List Ob → Prop) : Nat → List Oper → FF → List Ob → Prop
  | _, [], F, hp => QF F hp
  | k, o :: rest, F, hp => ∃ g hp', YE P N hpL light heavy brk ops k o F hp g hp' ∧ lexE P N hpL light heavy brk ops QF (k + 1) rest (F.put o.dst g) hp'

theorem anyE_lex {QF : FF → List Ob → Prop} (hO : Ordered md ops light heavy brk) : ∀ (l : List Oper) (k : Nat) (listed : Array Bool) (F : FF) (hp : List Ob), (∀ j, l[j]? = ops[k + j]?) → listed.size = ops.size → Shut md ops listed → (∀ j, j < k → listed.getD j true = true) → Keeps hpL light listed hp →
    Region.lexFrom md ops l.length k listed = true → lexE P N hpL light heavy brk ops QF k l F hp → anyE P N hpL light heavy brk md ops QF l.length listed F hp
  | [], _, _, _, _, _, _, _, _, _, hB, h => ⟨by simpa [Region.lexFrom] using hB, h⟩
  | o :: l, k, listed, F, hp, hl, hsz, hs, hpre, hk, hB, h => by
    have h0 : ops[k]? = some o := by simpa using (hl 0).symm
    simp only [List.length_cons, Region.lexFrom, Bool.and_eq_true] at hB
    obtain ⟨⟨hr, hf⟩, hB'⟩ := hB
    have hr' : k ∈ Region.ready md ops listed := by simpa using hr
    obtain ⟨g, hp', hy, hK⟩ := h
    refine anyE_first hO h0 l.length listed F hp hp' hsz hs hpre hk (Region.free_spec h0 hf) hr' hy (anyE_lex hO l (k + 1) _ _ _ (fun j => by have := hl (j + 1); simpa [Nat.add_assoc, Nat.add_comm 1 j] using this) (by simpa using hsz) (shut_set hs hr') (fun j hj => ?_) (keeps_set hO hsz hs hr' hk ?_) hB' hK)
    · by_cases hjk : k = j
      · subst hjk
        rcases Nat.lt_or_ge k listed.size with hl' | hl'
        · simp [hl']
        · simp [Array.getElem?_eq_none hl']
      · rw [getD_set_ne true hjk]; exact hpre j (by omega)
    · rcases hy with ⟨_, rfl⟩ | ⟨_, _, hb⟩
      · exact fun _ h => h
      · exact hb

theorem wpAny_of_anyE {Z : Env} {F0 : Nat} {M0 : Mp} {w0 : World} {O0 : Nat → Prop} {QF : FF → List Ob → Prop} {Q : Exit → Act → World → Prop} (hQ : ∀ F a w hp M, QF F hp → RelF Z hp M w F a N → Stp w0 O0 w (own hp M) → Agr F0 M0 M → F0 ≤ hp.length → Q .normal a w) :
    ∀ (fuel : Nat) (listed : Array Bool) (F : FF) (hp : List Ob) (M : Mp) (a : Act) (w : World), RelF Z hp M w F a N → Stp w0 O0 w (own hp M) → Agr F0 M0 M → F0 ≤ hp.length → anyE P N hpL light heavy brk md ops QF fuel listed F hp → wpAny P md ops Q fuel listed a w
  | 0, _, F, hp, M, a, w, hr, hs, ha, hF, h => ⟨h.1, hQ F a w hp M h.2 hr hs ha hF⟩
  | fuel + 1, listed, F, hp, M, a, w, hr, hs, ha, hF, h => ⟨fun h0 => hQ F a w hp M (h.1 h0) hr hs ha hF, fun i hi => by
    have hh := h.2 i hi
    have ih := wpAny_of_anyE hQ fuel (listed.setIfInBounds i true)
    unfold gOpE at hh
    unfold wpOp
    split
    · rename_i e; rw [e] at hh; exact ih F hp M a w hr hs ha hF hh
    · rename_i o e
      rw [e] at hh
      obtain ⟨g, hp', hy, hst, hK⟩ := hh
      have put : ∀ v w' M', (∀ d, o.dst = some d → d < N) → RelH Z hp' M' w' → VR w' (ownZ Z hp' M') M' g v → Stp w (own hp M) w' (own hp' M') → Agr hp.length M M' → RelF Z hp' M' w' (F.put o.dst g) (a.put o.dst v) N := fun v w' M' hd h1 h2 h3 h4 => by
        have st : ∀ {g v}, VR w (ownZ Z hp M) M g v → VR w' (ownZ Z hp' M') M' g v := fun h => h.step (stp_z Z h3) (fun i hi => h4.eq i (by rw [← hr.heap.len]; exact hi))
        cases hdst : o.dst with
        | none => exact ⟨h1, fun t g' hg => let ⟨v, e1, e2⟩ := hr.fr t g' hg; ⟨v, e1, st e2⟩, hr.size, hr.defers⟩
        | some d =>
          refine ⟨h1, fun t g' hg => ?_, by simp [Act.put, hr.size], hr.defers⟩
          simp only [FF.put] at hg
          by_cases hdt : d = t
          · subst hdt
            simp at hg
            subst hg
            exact ⟨v, by simp [Act.put, hr.size, hd d hdst], h2⟩
          · rw [if_neg hdt] at hg
            obtain ⟨v', e1, e2⟩ := hr.fr t g' hg
            exact ⟨v', by simp only [Act.put]; rw [Array.getElem?_setIfInBounds_ne hdt]; exact e1, st e2⟩
      have gd : ∀ j want b, F.guard ops j want = some b → (yielded ops a.tmps j == some want) = b := fun j want b hb => by
        unfold FF.guard at hb
        unfold yielded
        cases ht : (ops[j]?).bind (·.dst) with
        | none => rw [ht] at hb; simp at hb
        | some t =>
          rw [ht] at hb
          simp only [Option.bind_some] at hb ⊢
          cases hg : F t with
          | none => rw [hg] at hb; simp at hb
          | some g0 =>
            obtain ⟨v, hv, hvr⟩ := hr.fr t g0 hg
            rw [hg] at hb
            rw [hv]
            split at hb
            · rename_i b' e
              cases e
              rw [vr_v hvr]
              simpa using hb
            · rename_i e
              cases e
              cases hvr with
              | tup hl _ => simpa using hb
            · cases hb
      have wanted : Okd F ops o → Region.wanted o (yielded ops a.tmps) = true := fun h1 => by
        unfold Region.wanted
        rcases h1 with h1 | ⟨j, want, e1, e2⟩
        · rw [h1]
        · rw [e1]; exact gd j want true e2
      have step : ∀ fr : Fr, (∀ d, o.dst = some d → d < N) → Okd F ops o → hp.length ≤ hp'.length → (∀ t g', fr.get t = some g' → t ∈ o.looksAt ops ∧ F t = some g') → QtE P N o fr hp g hp' → (if Region.wanted o (yielded ops a.tmps) then o.wp P a w (wpAny P md ops Q fuel (listed.setIfInBounds i true)) Q ∨ (o.asks P a w ∧ LetsOut Q) else wpAny P md ops Q fuel (listed.setIfInBounds i true) (a.put o.dst undef) w) := fun fr hd h1 hl h2 h3 => by
        rw [wanted h1]
        simp only [if_true]
        exact .inl (h3 Z w M a ⟨hr.heap, fun t g' hg => hr.fr t g' (h2 t g' hg).2, hr.size, hr.defers⟩ _ _ fun v w' M' r1 r2 r3 r4 => ih _ hp' M' _ _ (put v w' M' hd r1 r2 r3 r4) (hs.trans r3) (ha.trans r4 hF) (by omega) hK)
      rcases hy with ⟨⟨hd, hy⟩, rfl⟩ | ⟨_, ⟨hd, h1, hl, fr, h2, h3⟩, _⟩
      · rcases hy with ⟨j, want, h1, h2, rfl⟩ | ⟨h1, fr, h2, h3⟩
        · have hw : Region.wanted o (yielded ops a.tmps) = false := by unfold Region.wanted; rw [h1]; exact gd j want false h2
          rw [hw]
          exact ih _ _ M _ _ (put _ w M hd hr.heap (.tup rfl fun _ _ _ h _ => by simp at h) (.refl _ _) ⟨Nat.le_of_eq hr.heap.len.symm, fun _ _ => rfl⟩) hs ha hF hK
        · exact step fr hd h1 (Nat.le_refl _) h2 (h3 _ hst)
      · exact step fr hd h1 hl h2 h3⟩

/-! ### The closed test -/
def befB (md : Region.Mode) (ops : Array Oper) : Nat → Nat → Nat → Bool
  | 0, _, _ => false
  | n + 1, i, j => match ops[j]? with
    | some o => o.after.any fun e => Region.binds md e && (Nat.beq e.on i || befB md ops n i e.on)
    | none => false
theorem befB_ok : ∀ {n i j : Nat}, befB md ops n i j = true → Bef md ops i j
  | 0, _, _, h => by cases h
  | n + 1, i, j, h => by
    simp only [befB] at h
    split at h
    · rename_i o ho
      rw [Array.any_eq_true'] at h
      obtain ⟨e, he, h⟩ := h
      simp only [Bool.and_eq_true, Bool.or_eq_true] at h
      rcases h.2 with h2 | h2
      · exact .here ho he h.1 (Nat.eq_of_beq_eq_true h2)
      · exact .far ho he h.1 (befB_ok h2)
    · cases h
def inL (L : List Nat) (i : Nat) : Bool := L.any (Nat.beq i)
def orderedB (ops : Array Oper) (ll hl bl : List Nat) : Bool :=
  (hl.all fun j => hl.all fun i => !(Nat.blt i j) || befB .any ops ops.size i j) && (bl.all fun j => ll.all fun i => befB .any ops ops.size i j)
theorem inL_mem {L : List Nat} {i : Nat} (h : inL L i = true) : i ∈ L := by
  obtain ⟨x, hx, e⟩ := List.any_eq_true.1 h
  exact Nat.eq_of_beq_eq_true e ▸ hx
theorem orderedB_ok {ll hl bl : List Nat} (h : orderedB ops ll hl bl = true) : Ordered .any ops (inL ll) (inL hl) (inL bl) := by
  simp only [orderedB, Bool.and_eq_true, List.all_eq_true, Bool.or_eq_true, Bool.not_eq_true'] at h
  refine ⟨fun i j hij hi hj _ => ?_, fun i j hi hj _ _ => befB_ok (h.2 j (inL_mem hj) i (inL_mem hi))⟩
  rcases h.1 j (inL_mem hj) i (inL_mem hi) with h1 | h1
  · rw [nblt.2 hij] at h1; cases h1
  · exact befB_ok h1
end
end Go.Gk
