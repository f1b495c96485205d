/-
  THE GHOST LOGIC, PART 28: the lists' form of a region that draws and turns objects.
-/
import Derived.Test.YtpgnhnjhpnbelaaGreatDoorGk27
set_option linter.unusedVariables false
set_option linter.unusedSimpArgs false
namespace Go.Gk

def StaysL : List Ob → List Ob → Prop
  | [], _ => True
  | .dead :: r, hp => StaysL r hp.tail
  | o :: r, hp => hp.head? = some o ∧ StaysL r hp.tail
theorem stays_mk : ∀ {hpL hp : List Ob}, StaysL hpL hp → Stays hpL hp
  | [], _, _, i, o, h, _ => by simp at h
  | q :: r, hp, h, i, o, hi, hl => by
    have key : StaysL r hp.tail ∧ (q.live = true → hp.head? = some q) := by
      cases q <;> first | exact ⟨h.2, fun _ => h.1⟩ | exact ⟨h, fun h => by cases h⟩
    cases i with
    | zero =>
      simp at hi
      subst hi
      have := key.2 hl
      cases hp with
      | nil => simp at this
      | cons x r => simpa using this
    | succ i =>
      have := stays_mk key.1 i o (by simpa using hi) hl
      cases hp with
      | nil => simp at this
      | cons x r => simpa using this
theorem pst_stays {Γ : TypeId → Option TI} {fr : Fr} {hpL hp : List Ob} {op : Op} {g : G} (hs : Stays hpL hp) (h : pst Γ fr hpL op = some g) : pst Γ fr hp op = some g := by
  cases op with
  | load t x =>
    simp only [pst] at h ⊢
    cases hi : Γ t with
    | none => rw [hi] at h; cases h
    | some i =>
      rw [hi] at h
      simp only [Option.bind_some] at h ⊢
      split at h
      · rename_i id off hx
        cases ho : hpL[id]? with
        | none => rw [ho] at h; cases h
        | some o =>
          rw [ho] at h
          cases o with
          | dead => cases h
          | map _ es => cases h
          | box tb gs => rw [hs id _ ho rfl]; exact h
          | row tb sz n ds => rw [hs id _ ho rfl]; exact h
      · exact h
      · cases h
  | call c =>
    obtain ⟨cal, ⟨args⟩, ⟨ts⟩⟩ := c
    cases cal with
    | value f => exact h
    | invoke r m => exact h
    | builtin b => cases b <;> first | exact h | (rcases args with _ | ⟨x, _ | ⟨y, _ | ⟨z, r⟩⟩⟩ <;> rcases ts with _ | ⟨t, _ | ⟨u, _ | ⟨v, q⟩⟩⟩ <;> exact h)
  | _ => exact h

section
variable {P : Program} {Γ : TypeId → Option TI} {F N : Nat} {Q : GPost} {fr fr' : Fr} {hp hp' hpL : List Ob} {ks : List Kt} {ll hl bl : List Nat}
variable {ops : Array Oper} {rest : List Oper} {g : G} {QF : Fr → List Ob → Prop}
variable {d : Tmp} {op : Op} {ty : TypeId} {pos : String} {after : Array Edge} {gd' : Option (Nat × Bool)} {k : Nat}

def GE (P : Program) (N : Nat) (hpL : List Ob) (ll hl bl : List Nat) (ops : Array Oper) (Q : Fr → List Ob → Prop) (k : Nat) (l : List Oper) (fr : Fr) (hp : List Ob) : Prop :=
  lexE P N hpL (inL ll) (inL hl) (inL bl) ops (fun F hp => ∃ fr' : Fr, fr'.get = F ∧ Q fr' hp) k l fr.get hp

theorem ew_drawE {id : Nat} {l : List Oper} (hm : P.follows .mixedOrders = true) (hB : Region.lexB .any l.toArray = true) (hO : orderedB l.toArray ll hl bl = true) (hst : StaysL hpL hp) (hF : F ≤ hp.length) (h : GE P N hpL ll hl bl l.toArray (fun fr' hp' => Q .normal fr' hp') 0 l fr hp) : EW P F N (.region id l.toArray true) Q fr hp := by
  intro Z w0 O0 M0 w M a hs ha hr
  simp only [Region.lexB, Bool.and_eq_true] at hB
  have hdr : Stp w (own hp M) w.drew (own hp M) := ⟨Nat.le_refl _, fun _ _ _ => rfl, fun _ _ h => h, rfl, rfl, rfl⟩
  have hr' : RelH Z hp M w.drew := by
    refine ⟨hr.heap.len, fun i o m h1 h2 => ?_, hr.heap.apart, hr.heap.old, hr.heap.amb_stp hdr, hr.heap.inj⟩
    have := hr.heap.obj i o m h1 h2
    exact this.move (k := M.length) (stp_z Z hdr) (fun _ _ => rfl) this.bel fun _ _ _ _ => rfl
  refine wp_region_any hm (wpAny_of_anyE (Z := Z) (F0 := F) (M0 := M0) (w0 := w0) (O0 := O0) (N := N) (hpL := hpL) (light := inL ll) (heavy := inL hl) (brk := inL bl) (QF := fun F hp => ∃ fr' : Fr, fr'.get = F ∧ Q .normal fr' hp) ?_ _ _ fr.get hp M a w.drew ⟨hr', fun t g hg => let ⟨v, e1, e2⟩ := hr.fr t g hg; ⟨v, e1, e2.step (stp_z Z hdr) (fun _ _ => rfl)⟩, hr.size, hr.defers⟩ (hs.trans hdr) ha hF ?_)
  · rintro F' a' w' hp' M' ⟨fr', rfl, hq⟩ h1 h2 h3 _
    exact ⟨fr', hp', M', hq, h1.toRel, h2, h3⟩
  · have := anyE_lex (P := P) (N := N) (md := .any) (hpL := hpL) (QF := fun F hp => ∃ fr' : Fr, fr'.get = F ∧ Q .normal fr' hp) (orderedB_ok hO) l 0 (Array.replicate l.toArray.size false) fr.get hp (by simp) (by simp) (fun k o h => by
      rcases Nat.lt_or_ge k l.toArray.size with h' | h'
      · simp at h' h; simp [h'] at h
      · simp at h' h; simp [h'] at h) (fun j hj => by omega) (fun _ => stays_mk hst) (by simpa using hB.2) h
    simpa using this
theorem j_drawE {id : Nat} {ops : Array Oper} (hpL : List Ob) (ll hl bl : List Nat) (hm : P.follows .mixedOrders = true) (hB : Region.lexB .any ops = true) (hO : orderedB ops ll hl bl = true) (hst : StaysL hpL hp) (hF : F ≤ hp.length) (h : GE P N hpL ll hl bl ops (fun fr' hp' => stk P F N Q ks .normal fr' hp') 0 ops.toList fr hp) : St.holds P F N Q (.code (.region id ops true) ks) fr hp := by
  have := ew_drawE (P := P) (F := F) (N := N) (Q := stk P F N Q ks) (fr := fr) (hp := hp) (hpL := hpL) (ll := ll) (hl := hl) (bl := bl) (id := id) (l := ops.toList) hm
  simp only [Array.toArray_toList] at this
  exact this hB hO hst hF h

theorem ge_nil (h : QF fr hp) : GE P N hpL ll hl bl ops QF k [] fr hp := ⟨fr, rfl, h⟩
/-- The end of the region. -/
theorem ge_fin (h : St.holds P F N Q (.fin .normal ks) fr hp) : GE P N hpL ll hl bl ops (fun fr' hp' => stk P F N Q ks .normal fr' hp') k [] fr hp := ⟨fr, rfl, h⟩
theorem qte_of_qt {o : Oper} (h : Qt P N o fr hp g) : QtE P N o fr hp g hp := fun Z w M a hr K Q hK => h Z w M a hr K Q fun v w' h1 h2 h3 => hK v w' M h1 h2 h3 ⟨Nat.le_of_eq hr.heap.len.symm, fun _ _ => rfl⟩
theorem ge_q (hd : Nat.blt d N = true) (hg : gd' = none ∨ ∃ j want, gd' = some (j, want) ∧ fr.guard ops j want = some true)
    (hq : ∀ hp, (inL ll k = true → Stays hpL hp) → QtE P N ⟨some d, op, ty, pos, after, gd'⟩ (fr.only (Oper.looksAt ops ⟨some d, op, ty, pos, after, gd'⟩)) hp g hp) (kk : GE P N hpL ll hl bl ops QF (k + 1) rest ((d, g) :: fr) hp) : GE P N hpL ll hl bl ops QF k (⟨some d, op, ty, pos, after, gd'⟩ :: rest) fr hp := by
  refine ⟨g, hp, .inl ⟨⟨fun d' h => by cases h; exact nblt.1 hd, .inr ⟨hg, _, fun t g' h => Fr.only_get h, hq⟩⟩, rfl⟩, ?_⟩
  unfold GE at kk
  rw [Fr.get_cons] at kk
  exact kk
theorem ge_p (hd : Nat.blt d N = true) (ho : ∀ hp, Stays hpL hp → OpP P N ⟨some d, op, ty, pos, after, none⟩ (fr.only (Oper.looksAt ops ⟨some d, op, ty, pos, after, none⟩)) hp g) (hl' : inL ll k = true) (kk : GE P N hpL ll hl bl ops QF (k + 1) rest ((d, g) :: fr) hp) : GE P N hpL ll hl bl ops QF k (⟨some d, op, ty, pos, after, none⟩ :: rest) fr hp :=
  ge_q hd (.inl rfl) (fun hp hs => qte_of_qt (qt_p (ho hp (hs hl')))) kk
theorem ge_pg {j : Nat} {want : Bool} (hg : fr.guard ops j want = some true) (hd : Nat.blt d N = true) (ho : ∀ hp, Stays hpL hp → OpP P N ⟨some d, op, ty, pos, after, some (j, want)⟩ (fr.only (Oper.looksAt ops ⟨some d, op, ty, pos, after, some (j, want)⟩)) hp g) (hl' : inL ll k = true) (kk : GE P N hpL ll hl bl ops QF (k + 1) rest ((d, g) :: fr) hp) : GE P N hpL ll hl bl ops QF k (⟨some d, op, ty, pos, after, some (j, want)⟩ :: rest) fr hp :=
  ge_q hd (.inr ⟨j, want, rfl, hg⟩) (fun hp hs => qte_of_qt (qt_p (ho hp (hs hl')))) kk
theorem ge_skip {j : Nat} {want : Bool} (hd : Nat.blt d N = true) (hg : fr.guard ops j want = some false) (kk : GE P N hpL ll hl bl ops QF (k + 1) rest ((d, .tup []) :: fr) hp) : GE P N hpL ll hl bl ops QF k (⟨some d, op, ty, pos, after, some (j, want)⟩ :: rest) fr hp := by
  refine ⟨.tup [], hp, .inl ⟨⟨fun d' h => by cases h; exact nblt.1 hd, .inl ⟨j, want, rfl, hg, rfl⟩⟩, rfl⟩, ?_⟩
  unfold GE at kk
  rw [Fr.get_cons] at kk
  exact kk
theorem ge_split {l : List Oper} (t : Tmp) {b : Bool} (hb : fr.get t = some (.d (.v (.bool b)))) (h1 : b = true → GE P N hpL ll hl bl ops QF k l ((t, .d (.v (.bool true))) :: fr) hp) (h2 : b = false → GE P N hpL ll hl bl ops QF k l ((t, .d (.v (.bool false))) :: fr) hp) : GE P N hpL ll hl bl ops QF k l fr hp := by
  have key : ∀ c, b = c → Fr.get ((t, .d (.v (.bool c))) :: fr) = fr.get := by
    rintro c rfl
    rw [Fr.get_cons]
    funext t'
    by_cases h : t = t'
    · subst h; simp [hb]
    · simp [h]
  unfold GE at *
  cases b
  · rw [← key false rfl]; exact h2 rfl
  · rw [← key true rfl]; exact h1 rfl
theorem ge_gsplit {dst : Option Tmp} {j : Nat} {want : Bool} {t : Tmp} {b : Bool} (hj : (ops[j]?).bind (·.dst) = some t) (hb : fr.get t = some (.d (.v (.bool b))))
    (h1 : b = true → GE P N hpL ll hl bl ops QF k (⟨dst, op, ty, pos, after, some (j, want)⟩ :: rest) ((t, .d (.v (.bool true))) :: fr) hp) (h2 : b = false → GE P N hpL ll hl bl ops QF k (⟨dst, op, ty, pos, after, some (j, want)⟩ :: rest) ((t, .d (.v (.bool false))) :: fr) hp) :
    GE P N hpL ll hl bl ops QF k (⟨dst, op, ty, pos, after, some (j, want)⟩ :: rest) fr hp := ge_split t hb h1 h2
/-- An operation that turns objects. -/
theorem ge_h (hp' : List Ob) (hd : Nat.blt d N = true) (hh : inL hl k = true) (hlen : Nat.ble hp.length hp'.length = true) (hst : inL bl k = false → Stays hpL hp → Stays hpL hp') (hq : QtE P N ⟨some d, op, ty, pos, after, none⟩ (fr.only (Oper.looksAt ops ⟨some d, op, ty, pos, after, none⟩)) hp g hp') (kk : GE P N hpL ll hl bl ops QF (k + 1) rest ((d, g) :: fr) hp') : GE P N hpL ll hl bl ops QF k (⟨some d, op, ty, pos, after, none⟩ :: rest) fr hp := by
  refine ⟨g, hp', .inr ⟨hh, ⟨fun d' h => by cases h; exact nblt.1 hd, .inl rfl, Nat.le_of_ble_eq_true hlen, _, fun t g' h => Fr.only_get h, hq⟩, hst⟩, ?_⟩
  unfold GE at kk
  rw [Fr.get_cons] at kk
  exact kk
theorem ge_h0 (hp' : List Ob) (hh : inL hl k = true) (hlen : Nat.ble hp.length hp'.length = true) (hst : inL bl k = false → Stays hpL hp → Stays hpL hp') (hq : QtE P N ⟨none, op, ty, pos, after, none⟩ (fr.only (Oper.looksAt ops ⟨none, op, ty, pos, after, none⟩)) hp g hp') (kk : GE P N hpL ll hl bl ops QF (k + 1) rest fr hp') : GE P N hpL ll hl bl ops QF k (⟨none, op, ty, pos, after, none⟩ :: rest) fr hp :=
  ⟨g, hp', .inr ⟨hh, ⟨(fun d' h => by cases h), .inl rfl, Nat.le_of_ble_eq_true hlen, _, fun t g' h => Fr.only_get h, hq⟩, hst⟩, kk⟩
theorem brk_st {b : Bool} {A B : Prop} (h : b = true) : b = false → A → B := fun h' => by rw [h] at h'; cases h'
theorem st_st {hp' : List Ob} {A B : Prop} (h : StaysL hpL hp') : A → B → Stays hpL hp' := fun _ _ => stays_mk h

/-! ### Many plain steps -/
def estep (Γ : TypeId → Option TI) (N : Nat) (hpL : List Ob) (ll : List Nat) (full : Array Oper) (k : Nat) (fr : Fr) : Oper → Option Fr
  | ⟨some d, op, ty, pos, after, none⟩ => bif Nat.blt d N then (pst Γ (fr.only (Oper.looksAt full ⟨some d, op, ty, pos, after, none⟩)) (bif inL ll k then hpL else []) op).map fun g => (d, g) :: fr else none
  | ⟨some d, op, ty, pos, after, some (j, want)⟩ => match fr.guard full j want with
    | some true => bif Nat.blt d N then (pst Γ (fr.only (Oper.looksAt full ⟨some d, op, ty, pos, after, some (j, want)⟩)) (bif inL ll k then hpL else []) op).map fun g => (d, g) :: fr else none
    | some false => bif Nat.blt d N then some ((d, .tup []) :: fr) else none
    | none => none
  | _ => none
def erun (Γ : TypeId → Option TI) (N : Nat) (hpL : List Ob) (ll : List Nat) (full : Array Oper) : Nat → Nat → List Oper → Fr → Nat × List Oper × Fr
  | 0, k, l, fr => (k, l, fr)
  | n + 1, k, [], fr => (k, [], fr)
  | n + 1, k, o :: l, fr => match estep Γ N hpL ll full k fr o with
    | some fr' => erun Γ N hpL ll full n (k + 1) l fr'
    | none => (k, o :: l, fr)
theorem estep_q (hΓ : TOK P Γ) {o : Oper} {hp : List Ob} (hs : inL ll k = true → Stays hpL hp) (h : pst Γ fr (bif inL ll k then hpL else []) op = some g) : QtE P N ⟨some d, op, ty, pos, after, gd'⟩ fr hp g hp := by
  refine qte_of_qt (qt_p (pst_ok hΓ ?_))
  cases hk : inL ll k with
  | true => rw [hk] at h; exact pst_stays (hs hk) h
  | false => rw [hk] at h; exact pst_stays (hpL := []) (fun i o h => by simp at h) h
theorem estep_ok (hΓ : TOK P Γ) {o : Oper} (h : estep Γ N hpL ll ops k fr o = some fr') (kk : GE P N hpL ll hl bl ops QF (k + 1) rest fr' hp) : GE P N hpL ll hl bl ops QF k (o :: rest) fr hp := by
  unfold estep at h
  split at h
  · rename_i d op ty pos after
    cases hd : Nat.blt d N with
    | false => rw [hd] at h; cases h
    | true =>
      rw [hd] at h
      obtain ⟨g, hg, rfl⟩ := Option.map_eq_some_iff.1 h
      exact ge_q hd (.inl rfl) (fun hp hs => estep_q (o := ⟨some d, op, ty, pos, after, none⟩) hΓ hs hg) kk
  · rename_i d op ty pos after j want
    split at h
    · rename_i hgd
      cases hd : Nat.blt d N with
      | false => rw [hd] at h; cases h
      | true =>
        rw [hd] at h
        obtain ⟨g, hg, rfl⟩ := Option.map_eq_some_iff.1 h
        exact ge_q hd (.inr ⟨j, want, rfl, hgd⟩) (fun hp hs => estep_q (o := ⟨some d, op, ty, pos, after, some (j, want)⟩) hΓ hs hg) kk
    · rename_i hgd
      cases hd : Nat.blt d N with
      | false => rw [hd] at h; cases h
      | true =>
        rw [hd] at h
        cases h
        exact ge_skip hd hgd kk
    · cases h
  · cases h
theorem go_E (hΓ : TOK P Γ) : ∀ (n : Nat) {k k' : Nat} {l l' : List Oper} {fr fr' : Fr}, erun Γ N hpL ll ops n k l fr = (k', l', fr') → GE P N hpL ll hl bl ops QF k' l' fr' hp → GE P N hpL ll hl bl ops QF k l fr hp
  | 0, k, k', l, l', fr, fr', h, kk => by cases h; exact kk
  | n + 1, k, k', [], l', fr, fr', h, kk => by cases h; exact kk
  | n + 1, k, k', o :: l, l', fr, fr', h, kk => by
    unfold erun at h
    split at h
    · rename_i fr1 h1
      exact estep_ok hΓ h1 (go_E hΓ n h kk)
    · cases h; exact kk

/-! ### What turns objects -/
theorem qte_s {o : Oper} (h : OpS P N o fr hp g hp') : QtE P N o fr hp g hp' := fun Z w M a hr K Q hK => by
  obtain ⟨v, w', M', h0, h1, h2, h3, h4⟩ := h Z w M a hr
  unfold Oper.wp
  rw [h0, Oper.upon_value]
  exact hK v w' M' h1 h2 h3 h4
theorem qte_u {op : Op} (h : OpU P N ⟨none, op, ty, pos, after, gd'⟩ fr hp hp') : QtE P N ⟨none, op, ty, pos, after, gd'⟩ fr hp .junk hp' := fun Z w M a hr K Q hK => by
  obtain ⟨w', M', h0, h1, h3, h4⟩ := h Z w M a hr
  unfold Oper.wp
  rw [h0, Oper.upon_skip]
  exact hK undef w' M' h1 (.junk _) h3 h4
variable {fop : Operand} {args : Array Operand} {ts : Array TypeId} {f : FuncId} {g1 g2 gs : List G}
theorem qte_callF {dst : Option Tmp} {gc : List G} {hc hc' : List Ob} {gr : G} (ρ : List Nat) (g' : G) (hp2 : List Ob) (hcl : Callable P f) (hc0 : EC P f gc hc fun g hp' => g = gr ∧ hp' = hc') (hf : fr.ev fop = some (.fn (.func f) g1 g2)) (ha : args.toList.mapM fr.ev = some gs)
    (hl : Nat.beq ρ.length hc.length = true) (hnd : nodupB ρ = true) (hobj : callIn hp ρ = (hc.map (Ob.ren (rn ρ hp.length))).map some) (hb : hc.all (Ob.bel hc.length) = true) (hgb : G.belAll hc.length gc = true)
    (hgs : gc.map (G.ren (rn ρ hp.length)) = g1 ++ gs ++ g2) (hg' : gr.ren (rn ρ hp.length) = g') (hhp : callObs hp ρ hc' = hp2) :
    QtE P N ⟨dst, .call ⟨.value fop, args, ts⟩, ty, pos, after, gd'⟩ fr hp g' hp2 := fun Z w M a hr K Q hK => by
  obtain ⟨vs, hrun, l, r⟩ := run_call (ts := ts) (ty := ty) (pos := pos) (after := after) (c := hp) hr hf ha hcl dst
  have hrun' : (execOp a.eval ⟨dst, .call ⟨.value fop, args, ts⟩, ty, pos, after, gd'⟩).run P w = .ok (.enter f vs) w := hrun
  unfold Oper.wp
  rw [hrun', Oper.upon_enter]
  refine (EC.callF ρ hc0 hl hnd hobj hb hgb hgs hg' hhp Z w M vs hr.heap l r).mono ?_
  rintro e w' ⟨v, g, hp', M', rfl, ⟨rfl, rfl⟩, h1, h2, h3, h4⟩
  exact hK v w' M' h1 h2 h3 h4
theorem ge_callP {r : G} {gs' : List G} (hcl : Callable P f) (hc : Pure P f gs r) (hd : Nat.blt d N = true) (hf : (fr.only (Oper.looksAt ops ⟨some d, .call ⟨.value fop, args, ts⟩, ty, pos, after, none⟩)).ev fop = some (.fn (.func f) g1 g2))
    (ha : args.toList.mapM (fr.only (Oper.looksAt ops ⟨some d, .call ⟨.value fop, args, ts⟩, ty, pos, after, none⟩)).ev = some gs') (hgs : gs = g1 ++ gs' ++ g2) (hb : G.belAll 0 gs = true) (hb' : r.bel 0 = true)
    (kk : GE P N hpL ll hl bl ops QF (k + 1) rest ((d, r) :: fr) hp) : GE P N hpL ll hl bl ops QF k (⟨some d, .call ⟨.value fop, args, ts⟩, ty, pos, after, none⟩ :: rest) fr hp := by
  subst hgs
  exact ge_q hd (.inl rfl) (fun hp _ => qte_of_qt (qt_pure hf ha hcl hc hb hb')) kk
theorem ge_litT {α : Type} {enc : α → List D} (hΓ : TOK P Γ) {t e : TypeId} {len : Nat} {i1 i2 : TI} {parts : Array (Nat × Operand)} {pg : List (Nat × G)} {gs : List G} (l : List α) (h1 : Γ t = some i1) (h1' : i1.desc = .slice e) (h2 : Γ e = some i2)
    (hz : (i2.zero.cells.toList.all (·.oneCell')) = true) (hz' : Nat.blt 0 i2.zero.cells.size = true) (hlen : Nat.ble (len * i2.size) 16777216 = true) (hlen' : Nat.ble len 16777216 = true) (hp' : evParts (fr.only (Oper.looksAt ops ⟨some d, .buildSlice t len parts, ty, pos, after, none⟩)) parts.toList = some pg) (hf : fillG (fun i => some (i * i2.size, i2.size)) (zerosG i2 len) pg = some gs) (hds : toDs gs = some (l.flatMap enc)) (hlq : len = l.length)
    (hd : Nat.blt d N = true) (kk : GE P N hpL ll hl bl ops QF (k + 1) rest ((d, .d (Sl enc l)) :: fr) hp) : GE P N hpL ll hl bl ops QF k (⟨some d, .buildSlice t len parts, ty, pos, after, none⟩ :: rest) fr hp := by
  subst hlq
  exact ge_q hd (.inl rfl) (fun hp _ => qte_of_qt (qt_lit hΓ h1 h1' h2 hz hz' hlen hlen' hp' hf hds)) kk

theorem ops_alloc (hΓ : TOK P Γ) {t : TypeId} {i : TI} (hi : Γ t = some i) (h1 : (i.zero.cells.toList.all (·.oneCell')) = true) : OpS P N ⟨some d, .alloc t, ty, pos, after, gd'⟩ fr hp (.ptr hp.length 0) (hp ++ [.box t (zeroG i)]) := fun Z w M a hr => by
  obtain ⟨_, inf, e1, e2, e3, e4⟩ := hΓ t i hi
  have hc : i.zero.cells.size = (zeroG i).length ∧ CellsR w (ownZ Z hp M) M i.zero.cells (zeroG i) := by
    refine ⟨by simp [zeroG], fun j g hj => ?_⟩
    simp only [zeroG, List.getElem?_map] at hj
    obtain ⟨c, hc, rfl⟩ := Option.map_eq_some_iff.1 hj
    exact ⟨c, by simpa using hc, List.all_eq_true.1 h1 c (List.mem_of_getElem? hc), .d (vd_nilD c (List.all_eq_true.1 h1 c (List.mem_of_getElem? hc)))⟩
  obtain ⟨r1, r2, r3⟩ := box_push (t := t) hr.heap hc
  refine ⟨.pointer (some ⟨w.heap.size, 0, none⟩), _, _, ?_, r1, .ptr (c := 0) ?_, r2, r3⟩
  · simp [execOp, Instr.alloc, zeroValue, typeInfo, e1, e4, newVar, newRow]
  · rw [← hr.heap.len]; simp
theorem ops_box {t : TypeId} {x : Operand} {gs : List G} (hx : fr.ev x = some g) (hg : cellsG g = some gs) (h1 : gs.all G.one = true) : OpS P N ⟨some d, .box t x, ty, pos, after, gd'⟩ fr hp (.ptr hp.length 0) (hp ++ [.box t gs]) := fun Z w M a hr => by
  obtain ⟨r1, r2, r3⟩ := box_push (t := t) hr.heap (cells_ok (hr.ev hx) hg h1)
  refine ⟨.pointer (some ⟨w.heap.size, 0, none⟩), _, _, ?_, r1, .ptr (c := 0) ?_, r2, r3⟩
  · simp [execOp, Instr.box, newVar, newRow]
  · rw [← hr.heap.len]; simp
theorem op_build (hΓ : TOK P Γ) {t : TypeId} {fs : Array Field} {i1 : TI} {parts : Array (Nat × Operand)} {pg : List (Nat × G)} {gs : List G} (h1 : Γ t = some i1) (h1' : i1.desc = .struct fs) (hfs : (fs.toList.all fun f => (Γ f.type).isSome) = true)
    (hz : (i1.zero.cells.toList.all (·.oneCell')) = true) (hp' : evParts fr parts.toList = some pg) (hf : fillG (placesG Γ fs) (zeroG i1) pg = some gs)
    : OpP P N ⟨some d, .build t parts, ty, pos, after, gd'⟩ fr hp (.agg gs) := by
  intro Z w M a hr
  obtain ⟨u1, inf, e1, e2, e3, e4⟩ := hΓ t _ h1
  rw [h1'] at u1
  obtain ⟨r, p1, p2⟩ := places_run (P := P) (w := w) hΓ fs.toList fun f hf => List.all_eq_true.1 hfs f hf
  have hpl : (fun i => (r.toArray)[i]?) = placesG Γ fs := by
    funext i
    rw [List.getElem?_toArray, p2 i]
    simp [placesG]
  have hpl' : (fun i => r[i]?) = placesG Γ fs := by rw [← hpl]; funext i; simp
  obtain ⟨cs', r1, r2, r3, r4⟩ := fill_ok (place := placesG Γ fs) (cs := i1.zero.cells) hr parts.toList hp' hf (by simp [zeroG]) (fun j g hj => by
    simp only [zeroG, List.getElem?_map] at hj
    obtain ⟨c, hc, rfl⟩ := Option.map_eq_some_iff.1 hj
    exact ⟨c, by simpa using hc, List.all_eq_true.1 hz c (List.mem_of_getElem? hc), .d (vd_nilD c (List.all_eq_true.1 hz c (List.mem_of_getElem? hc)))⟩)
  refine ⟨.agg cs', ?_, .agg r2 fun j g v hg hv => ?_⟩
  · have hm : (fs.mapM fun f => (Prod.mk f.offset <$> sizeOf f.type : Sem (Nat × Nat))).run P w = .ok r.toArray w := by
      rw [Array.mapM_eq_mapM_toList]
      simp [p1]
    simp [execOp, Instr.build, zeroValue, typeInfo, e1, e4, run_underlying u1, hm]
    rw [← hpl'] at r1
    simp [r1]
  · obtain ⟨v', f1, f2, f3⟩ := r4 j g hg
    rw [hv] at f1
    cases f1
    exact f3
theorem opu_store (hΓ : TOK P Γ) {t tb : TypeId} {x y : Operand} {i : TI} {id off : Nat} {gs new : List G} (hi : Γ t = some i) (hx : fr.ev x = some (.ptr id off)) (ho : hp[id]? = some (.box tb gs)) (hy : fr.ev y = some g) (hg : cellsG g = some new)
    (h1 : new.all G.one = true) (hsz : Nat.beq new.length i.size = true) (hfit : Nat.ble (off + new.length) gs.length = true) : OpU P N ⟨none, .store t x y, ty, pos, after, gd'⟩ fr hp (hp.set id (.box tb (setAt gs off new))) := fun Z w M a hr => by
  have hvx := hr.ev hx
  have hvy := cells_ok (hr.ev hy) hg h1
  simp only [execOp]
  generalize a.eval x = vx at hvx
  cases hvx with
  | ptr hM =>
    rename_i b c
    obtain ⟨cs, hb, hl, hcr⟩ := hr.heap.obj id _ _ ho hM
    have hfit' := Nat.le_of_ble_eq_true hfit
    have hvl : (a.eval y).cells.toList.length = new.length := by simp [hvy.1]
    obtain ⟨w', r1, r2, r3⟩ := write_ok (P := P) (o' := .box tb (setAt gs off new)) hr.heap ho rfl hM hb (off := off) (vs := (a.eval y).cells.toList) (by rw [hvl, hl]; exact hfit') (fun v hv => by
        obtain ⟨j, hj⟩ := List.getElem?_of_mem hv
        have hlt : j < new.length := by rw [← hvl]; exact (List.getElem?_eq_some_iff.1 hj).1
        obtain ⟨u, e1, e2, _⟩ := hvy.2 j _ (List.getElem?_eq_getElem hlt)
        have : some v = some u := by rw [← e1, ← hj]; simp
        cases this; exact e2)
      (fun w' hst hh => ⟨_, hh, by simp [setAt_length (show off + (a.eval y).cells.toList.length ≤ cs.toList.length by rw [hvl]; simp [hl]; exact hfit'), setAt_length hfit', hl], CellsR.setAt
        (fun j g hj => let ⟨v, e1, e2, e3⟩ := hcr j g hj; ⟨v, e1, e2, e3.step hst (fun _ _ => rfl)⟩) (fun j g hj => let ⟨v, e1, e2, e3⟩ := hvy.2 j g hj; ⟨v, e1, e2, e3.step hst (fun _ _ => rfl)⟩) hvy.1 hfit' (by omega)⟩) rfl
    refine ⟨w', M, ?_, r2, r3, ⟨by rw [hr.heap.len]; exact Nat.le_refl _, fun _ _ => rfl⟩⟩
    have hs := run_size' (P := P) (w := w) hΓ hi
    have : (a.eval y).cells.size = i.size := by rw [hvy.1]; exact Nat.eq_of_beq_eq_true hsz
    simp [Instr.storeAt, Instr.sureAddr, storeVar, hs, this, r1]
end
end Go.Gk
