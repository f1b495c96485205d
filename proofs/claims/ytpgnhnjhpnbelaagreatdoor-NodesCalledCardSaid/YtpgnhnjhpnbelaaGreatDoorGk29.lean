/-
  THE GHOST LOGIC, PART 29: joins at any place, with ghost steps at the end of a way; guarded turns in regions that draw.
-/
import Derived.Test.YtpgnhnjhpnbelaaGreatDoorGk28
set_option linter.unusedVariables false
set_option linter.unusedSimpArgs false
namespace Go.Gk

theorem orI_l {A T : Type} {a : A} {f : A → Option T} {x : Option T} (h : orI (.inl a) f = x) : f a = x := h
theorem goI_l {σ T : Type} {a : σ} {f : σ → Option T} {x : Option T} (h : goI (.go a) f = x) : f a = x := h

section
variable {P : Program} {Γ : TypeId → Option TI} {F N : Nat} {Q : GPost} {fr fr' : Fr} {hp hp' : List Ob} {ks ks2 : List Kt}
theorem post_weak {Z : Env} {w0 w : World} {O0 : Nat → Prop} {M0 M : Mp} {e : Exit} {a : Act} {fr1 : Fr} {ob1 : List Ob} (hm : MidP F fr1 ob1 fr hp) (hq : Q e fr1 ob1) (hr : Rel Z hp M w fr a N) (hs : Stp w0 O0 w (own hp M)) (ha : Agr F M0 M) :
    Post Z F N Q w0 O0 M0 e a w := by
  obtain ⟨h1, ex, rfl, he | ⟨h2, h3, h4⟩⟩ := hm
  · subst he
    rw [List.append_nil] at hr hs
    exact ⟨fr1, ob1, M, hq, hr.sub h1, hs, ha⟩
  · exact ⟨fr1, ob1, _, hq, (hr.sub h1).cut h2 h3, stp_cut hs, ha.cut h4 (by rw [hr.heap.len]; simp)⟩
/-- It holds behind steps that only the proof takes. -/
def Cv (F N : Nat) (M : Fr → List Ob → Prop) (fr : Fr) (hp : List Ob) : Prop :=
  ∀ Z w M1 a, Rel Z hp M1 w fr a N → ∃ fr' hp' M', M fr' hp' ∧ Rel Z hp' M' w fr' a N ∧ Stp w (own hp M1) w (own hp' M') ∧ ∀ M0, Agr F M0 M1 → Agr F M0 M'
theorem cv_here {M : Fr → List Ob → Prop} (h : M fr hp) : Cv F N M fr hp := fun Z w M1 a hr => ⟨fr, hp, M1, h, hr, Stp.refl _ _, fun _ h => h⟩
theorem cv_ghost {M : Fr → List Ob → Prop} (hF : F ≤ hp.length) (h : ∀ Z w M a, Rel Z hp M w fr a N → ∃ M', Rel Z hp' M' w fr' a N ∧ Stp w (own hp M) w (own hp' M') ∧ Agr hp.length M M') (k : Cv F N M fr' hp') : Cv F N M fr hp := by
  intro Z w M1 a hr
  obtain ⟨M2, h1, h2, h3⟩ := h Z w M1 a hr
  obtain ⟨fr3, hp3, M3, k0, k1, k2, k3⟩ := k Z w M2 a h1
  exact ⟨fr3, hp3, M3, k0, k1, h2.trans k2, fun M0 h => k3 M0 (h.trans h3 hF)⟩
theorem cv_shr {M : Fr → List Ob → Prop} {te sz m : Nat} {ds : List D} (id : Nat) (L : List Nat) (fr2 : Fr) (hp2 : List Ob) (ho : hp[id]? = some (.row te sz m ds)) (hfr : Fr.shrAt id ds fr L = fr2) (hhp : (hp.map (Ob.shr id ds)).set id .dead = hp2) (hF : F ≤ hp.length)
    (k : Cv F N M fr2 hp2) : Cv F N M fr hp := by
  subst hfr; subst hhp
  exact cv_ghost hF (gh_shr id L ho) k
theorem cv_move {M : Fr → List Ob → Prop} (src dst : Nat) {o : Ob} (hp2 : List Ob) (ho : hp[src]? = some o) (hol : o.live = true) (hdst : hp[dst]? = some .dead) (hno : (hp.all fun o => !o.has dst) = true) (hF : Nat.ble F dst = true) (hhp : mvObs src dst o hp = hp2) (k : Cv F N M (fr.mv src dst) hp2) : Cv F N M fr hp := by
  subst hhp
  intro Z w M1 a hr
  obtain ⟨M2, h1, h2, h3, h4⟩ := gh_move src dst ho hol hdst hno Z w M1 a hr
  obtain ⟨fr3, hp3, M3, k0, k1, k2, k3⟩ := k Z w M2 a h1
  refine ⟨fr3, hp3, M3, k0, k1, h2.trans k2, fun M0 ha => k3 M0 ⟨by rw [h3]; exact ha.le, fun i hi => ?_⟩⟩
  rw [h4 i (by have := Nat.le_of_ble_eq_true hF; omega)]
  exact ha.eq i hi

theorem j_cutEZ {A : Type} {c : Code} {R : A → Prop} (fr1 : A → Fr) (ob1 : A → List Ob) (h1 : St.holds P F N Q (.code c (.mid (fun fr' hp' => ∃ a, R a ∧ MidP F (fr1 a) (ob1 a) fr' hp') :: ks)) fr hp)
    (h2 : ∀ a, R a → St.holds P F N Q (.fin .normal ks) (fr1 a) (ob1 a)) : St.holds P F N Q (.code c ks) fr hp := by
  intro Z w0 O0 M0 w M a hs ha hr
  refine wp_mono (h1 Z w0 O0 M0 w M a hs ha hr) ?_
  rintro e a' w' ⟨fr', hp', M', q, r1, r2, r3⟩
  cases e with
  | normal =>
    obtain ⟨x, hR, hm⟩ := q
    exact post_weak hm (h2 x hR) r1 r2 r3
  | _ => exact ⟨fr', hp', M', q, r1, r2, r3⟩
theorem j_cutEC {A : Type} {c : Code} {R : A → Prop} (fr1 : A → Fr) (ob1 : A → List Ob) (h1 : St.holds P F N Q (.code c (.mid (Cv F N fun fr' hp' => ∃ a, R a ∧ MidP F (fr1 a) (ob1 a) fr' hp') :: ks)) fr hp)
    (h2 : ∀ a, R a → St.holds P F N Q (.fin .normal ks) (fr1 a) (ob1 a)) : St.holds P F N Q (.code c ks) fr hp := by
  intro Z w0 O0 M0 w M a hs ha hr
  refine wp_mono (h1 Z w0 O0 M0 w M a hs ha hr) ?_
  rintro e a' w' ⟨fr', hp', M', q, r1, r2, r3⟩
  cases e with
  | normal =>
    obtain ⟨fr3, hp3, M3, ⟨x, hR, hm⟩, k1, k2, k3⟩ := q Z w' M' a' r1
    exact post_weak hm (h2 x hR) k1 (r2.trans k2) (k3 _ r3)
  | _ => exact ⟨fr', hp', M', q, r1, r2, r3⟩
theorem j_cutNZ {c : Code} (fr1 : Fr) (ob1 : List Ob) (h1 : St.holds P F N Q (.code c (.mid (MidP F fr1 ob1) :: ks)) fr hp) (h2 : St.holds P F N Q (.fin .normal ks) fr1 ob1) : St.holds P F N Q (.code c ks) fr hp := by
  intro Z w0 O0 M0 w M a hs ha hr
  refine wp_mono (h1 Z w0 O0 M0 w M a hs ha hr) ?_
  rintro e a' w' ⟨fr', hp', M', q, r1, r2, r3⟩
  cases e with
  | normal => exact post_weak q h2 r1 r2 r3
  | _ => exact ⟨fr', hp', M', q, r1, r2, r3⟩
theorem j_cutNC {c : Code} (fr1 : Fr) (ob1 : List Ob) (h1 : St.holds P F N Q (.code c (.mid (Cv F N (MidP F fr1 ob1)) :: ks)) fr hp) (h2 : St.holds P F N Q (.fin .normal ks) fr1 ob1) : St.holds P F N Q (.code c ks) fr hp := by
  intro Z w0 O0 M0 w M a hs ha hr
  refine wp_mono (h1 Z w0 O0 M0 w M a hs ha hr) ?_
  rintro e a' w' ⟨fr', hp', M', q, r1, r2, r3⟩
  cases e with
  | normal =>
    obtain ⟨fr3, hp3, M3, hm, k1, k2, k3⟩ := q Z w' M' a' r1
    exact post_weak hm h2 k1 (r2.trans k2) (k3 _ r3)
  | _ => exact ⟨fr', hp', M', q, r1, r2, r3⟩
theorem j_cutSZ {c : Code} {A T : Type} {q : A ⊕ T} (fr1 : A → Fr) (ob1 : A → List Ob) (h1 : St.holds P F N Q (.code c (.mid (fun fr' hp' => ∃ a, q = .inl a ∧ MidP F (fr1 a) (ob1 a) fr' hp') :: ks)) fr hp)
    (h2 : ∀ a, q = .inl a → St.holds P F N Q (.fin .normal ks) (fr1 a) (ob1 a)) : St.holds P F N Q (.code c ks) fr hp := j_cutEZ fr1 ob1 h1 h2
theorem j_cutSC {c : Code} {A T : Type} {q : A ⊕ T} (fr1 : A → Fr) (ob1 : A → List Ob) (h1 : St.holds P F N Q (.code c (.mid (Cv F N fun fr' hp' => ∃ a, q = .inl a ∧ MidP F (fr1 a) (ob1 a) fr' hp') :: ks)) fr hp)
    (h2 : ∀ a, q = .inl a → St.holds P F N Q (.fin .normal ks) (fr1 a) (ob1 a)) : St.holds P F N Q (.code c ks) fr hp := j_cutEC fr1 ob1 h1 h2
end

/-! ### Guarded turns -/
section
variable {P : Program} {Γ : TypeId → Option TI} {F N : Nat} {Q : GPost} {fr fr' : Fr} {hp hp' hpL : List Ob} {ks : List Kt} {ll hl bl : List Nat}
variable {ops : Array Oper} {rest : List Oper} {g : G} {QF : Fr → List Ob → Prop}
variable {d : Tmp} {op : Op} {ty : TypeId} {pos : String} {after : Array Edge} {k : Nat} {j : Nat} {want : Bool}
variable {fop : Operand} {args : Array Operand} {ts : Array TypeId} {f : FuncId} {g1 g2 gs : List G}
theorem ge_callPg {r : G} {gs' : List G} (hg : fr.guard ops j want = some true) (hcl : Callable P f) (hc : Pure P f gs r) (hd : Nat.blt d N = true) (hf : (fr.only (Oper.looksAt ops ⟨some d, .call ⟨.value fop, args, ts⟩, ty, pos, after, some (j, want)⟩)).ev fop = some (.fn (.func f) g1 g2))
    (ha : args.toList.mapM (fr.only (Oper.looksAt ops ⟨some d, .call ⟨.value fop, args, ts⟩, ty, pos, after, some (j, want)⟩)).ev = some gs') (hgs : gs = g1 ++ gs' ++ g2) (hb : G.belAll 0 gs = true) (hb' : r.bel 0 = true)
    (kk : GE P N hpL ll hl bl ops QF (k + 1) rest ((d, r) :: fr) hp) : GE P N hpL ll hl bl ops QF k (⟨some d, .call ⟨.value fop, args, ts⟩, ty, pos, after, some (j, want)⟩ :: rest) fr hp := by
  subst hgs
  exact ge_q hd (.inr ⟨j, want, rfl, hg⟩) (fun hp _ => qte_of_qt (qt_pure hf ha hcl hc hb hb')) kk
theorem ge_litTg {α : Type} {enc : α → List D} (hΓ : TOK P Γ) {t e : TypeId} {len : Nat} {i1 i2 : TI} {parts : Array (Nat × Operand)} {pg : List (Nat × G)} {gs : List G} (l : List α) (hg : fr.guard ops j want = some true) (h1 : Γ t = some i1) (h1' : i1.desc = .slice e) (h2 : Γ e = some i2)
    (hz : (i2.zero.cells.toList.all (·.oneCell')) = true) (hz' : Nat.blt 0 i2.zero.cells.size = true) (hlen : Nat.ble (len * i2.size) 16777216 = true) (hlen' : Nat.ble len 16777216 = true) (hp' : evParts (fr.only (Oper.looksAt ops ⟨some d, .buildSlice t len parts, ty, pos, after, some (j, want)⟩)) parts.toList = some pg) (hf : fillG (fun i => some (i * i2.size, i2.size)) (zerosG i2 len) pg = some gs) (hds : toDs gs = some (l.flatMap enc)) (hlq : len = l.length)
    (hd : Nat.blt d N = true) (kk : GE P N hpL ll hl bl ops QF (k + 1) rest ((d, .d (Sl enc l)) :: fr) hp) : GE P N hpL ll hl bl ops QF k (⟨some d, .buildSlice t len parts, ty, pos, after, some (j, want)⟩ :: rest) fr hp := by
  subst hlq
  exact ge_q hd (.inr ⟨j, want, rfl, hg⟩) (fun hp _ => qte_of_qt (qt_lit hΓ h1 h1' h2 hz hz' hlen hlen' hp' hf hds)) kk
theorem ge_hg (hp' : List Ob) (hg : fr.guard ops j want = some true) (hd : Nat.blt d N = true) (hh : inL hl k = true) (hlen : Nat.ble hp.length hp'.length = true) (hst : inL bl k = false → Stays hpL hp → Stays hpL hp') (hq : QtE P N ⟨some d, op, ty, pos, after, some (j, want)⟩ (fr.only (Oper.looksAt ops ⟨some d, op, ty, pos, after, some (j, want)⟩)) hp g hp') (kk : GE P N hpL ll hl bl ops QF (k + 1) rest ((d, g) :: fr) hp') : GE P N hpL ll hl bl ops QF k (⟨some d, op, ty, pos, after, some (j, want)⟩ :: rest) fr hp := by
  refine ⟨g, hp', .inr ⟨hh, ⟨fun d' h => by cases h; exact nblt.1 hd, .inr ⟨j, want, rfl, hg⟩, Nat.le_of_ble_eq_true hlen, _, fun t g' h => Fr.only_get h, hq⟩, hst⟩, ?_⟩
  unfold GE at kk
  rw [Fr.get_cons] at kk
  exact kk
theorem ge_h0g (hp' : List Ob) (hg : fr.guard ops j want = some true) (hh : inL hl k = true) (hlen : Nat.ble hp.length hp'.length = true) (hst : inL bl k = false → Stays hpL hp → Stays hpL hp') (hq : QtE P N ⟨none, op, ty, pos, after, some (j, want)⟩ (fr.only (Oper.looksAt ops ⟨none, op, ty, pos, after, some (j, want)⟩)) hp g hp') (kk : GE P N hpL ll hl bl ops QF (k + 1) rest fr hp') : GE P N hpL ll hl bl ops QF k (⟨none, op, ty, pos, after, some (j, want)⟩ :: rest) fr hp :=
  ⟨g, hp', .inr ⟨hh, ⟨(fun d' h => by cases h), .inr ⟨j, want, rfl, hg⟩, Nat.le_of_ble_eq_true hlen, _, fun t g' h => Fr.only_get h, hq⟩, hst⟩, kk⟩
end
end Go.Gk
