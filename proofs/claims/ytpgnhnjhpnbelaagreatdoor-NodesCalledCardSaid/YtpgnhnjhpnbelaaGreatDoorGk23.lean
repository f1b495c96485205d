/-
  THE GHOST LOGIC, PART 23: joins and loops, as a program prints them.
-/
import Derived.Test.YtpgnhnjhpnbelaaGreatDoorGk22
set_option linter.unusedVariables false
set_option linter.unusedSimpArgs false
namespace Go.Gk

abbrev eN (k : IntKind) (z : Int) : List D := [.v (.int k z)]
abbrev eB (b : Bool) : List D := [.v (.bool b)]
abbrev eS (s : Str) : List D := [.v (.string ⟨s.toArray⟩)]
abbrev eL {α : Type} (enc : α → List D) (l : List α) : List D := [Sl enc l]

def nrmK : List Kt → Option (Code × List Kt)
  | .seq y :: ks => some (y, ks)
  | .block _ :: ks => nrmK ks
  | _ => none
/-- A loop whose rounds only go on. -/
def rangeF {α σ : Type} (f : Nat → α → σ → Option σ) : Nat → List α → σ → Option σ
  | _, [], s => some s
  | i, x :: l, s => bi (f i x s) fun s' => rangeF f (i + 1) l s'
def rangeI {σ ρ : Type} (f : Nat → σ → Option (LS σ ρ)) (n : Int) (s : σ) : Option (LS σ ρ) := rangeM (fun i (_ : Unit) s => f i s) 0 (List.replicate n.toNat ()) s
def rangeG {σ : Type} (f : Nat → σ → Option σ) (n : Int) (s : σ) : Option σ := rangeF (fun i (_ : Unit) s => f i s) 0 (List.replicate n.toNat ()) s
theorem rangeF_M {α σ : Type} {f : Nat → α → σ → Option σ} : ∀ {l : List α} {i : Nat} {s r : σ}, rangeF f i l s = some r → rangeM (ρ := Empty) (fun i x s => bi (f i x s) fun s' => some (.go s')) i l s = some (.go r)
  | [], i, s, r, h => by cases h; rfl
  | x :: l, i, s, r, h => by
    obtain ⟨s', h1, h2⟩ := bi_ok h
    have := rangeF_M h2
    simp only [rangeM, h1, bi_some]
    exact this

section
variable {P : Program} {Γ : TypeId → Option TI} {F N : Nat} {Q : GPost} {fr fr' : Fr} {hp : List Ob} {ks ks2 : List Kt}

theorem stk_nrm {y : Code} : ∀ {ks : List Kt}, nrmK ks = some (y, ks2) → ∀ fr hp, EW P F N y (stk P F N Q ks2) fr hp → stk P F N Q ks .normal fr hp
  | [], h, _, _, _ => by cases h
  | .seq z :: ks, h, fr, hp, k => by cases h; exact k
  | .block i :: ks, h, fr, hp, k => stk_nrm (ks := ks) h fr hp k
  | .mid M :: ks, h, _, _, _ => by cases h
/-- Ways meet, where more than one value can have come out. -/
theorem j_cutE {A : Type} {c y : Code} {R : A → Prop} (fr1 : A → Fr) (ob1 : A → List Ob) (hn : nrmK ks = some (y, ks2)) (h1 : St.holds P F N Q (.code c (.mid (fun fr' hp' => ∃ a, R a ∧ MidP F (fr1 a) (ob1 a) fr' hp') :: ks)) fr hp) (h2 : ∀ a, R a → St.holds P F N Q (.code y ks2) (fr1 a) (ob1 a)) : St.holds P F N Q (.code c ks) fr hp := by
  refine ew_mono (Q := stk P F N Q (.mid (fun fr' hp' => ∃ a, R a ∧ MidP F (fr1 a) (ob1 a) fr' hp') :: ks)) h1 fun e fr' hp' h => ?_
  cases e with
  | normal =>
    obtain ⟨a, hR, hm⟩ := h
    exact stk_nrm hn _ _ (ew_weak hm (h2 a hR))
  | _ => exact h
theorem j_cutN {c y : Code} (fr1 : Fr) (ob1 : List Ob) (hn : nrmK ks = some (y, ks2)) (h1 : St.holds P F N Q (.code c (.mid (MidP F fr1 ob1) :: ks)) fr hp) (h2 : St.holds P F N Q (.code y ks2) fr1 ob1) : St.holds P F N Q (.code c ks) fr hp := by
  refine ew_mono (Q := stk P F N Q (.mid (MidP F fr1 ob1) :: ks)) h1 fun e fr' hp' h => ?_
  cases e with
  | normal => exact stk_nrm hn _ _ (ew_weak h h2)
  | _ => exact h
theorem FB_get : ∀ {fr : Fr} {k : Nat}, (∀ t g, fr.get t = some g → g.bel k = true) → ∀ {fr2 : Fr}, fr2.Sub fr → fr2.FB k
  | fr, k, h, [], _ => trivial
  | fr, k, h, (t, g) :: r, hs => ⟨h t g hs.1, FB_get h hs.2⟩
theorem Sub_trans {a b c : Fr} (h : a.Sub b) (k : b.Sub c) : a.Sub c := by
  induction a with
  | nil => trivial
  | cons x r ih =>
    obtain ⟨t, g⟩ := x
    exact ⟨k.get t g h.1, ih h.2⟩
theorem HB_prefix {k : Nat} {a b : List Ob} (h : HB k (a ++ b)) : HB k a := fun i o ho => h i o (by
  have := (List.getElem?_eq_some_iff.1 ho).1
  rw [List.getElem?_append_left this]; exact ho)
theorem MidP.trans {fr1 fr2 : Fr} {ob1 ob2 : List Ob} (h : MidP F fr2 ob2 fr1 ob1) (k : MidP F fr1 ob1 fr hp) : MidP F fr2 ob2 fr hp := by
  obtain ⟨s1, ex1, rfl, c1⟩ := h
  obtain ⟨s2, ex2, rfl, c2⟩ := k
  refine ⟨Sub_trans s1 s2, ex1 ++ ex2, by rw [List.append_assoc], ?_⟩
  rcases c1 with rfl | c1
  · rcases c2 with rfl | ⟨b1, b2, b3⟩
    · exact .inl rfl
    · rw [List.append_nil] at b1 b2 b3
      exact .inr ⟨b1, FB_get (fun t g h => b2.get t g h) s1, b3⟩
  · exact .inr c1
/-- The same, where the piece is the last one ahead of a middle. -/
theorem j_cutEM {A : Type} {c : Code} {R : A → Prop} {M : Fr → List Ob → Prop} (fr1 : A → Fr) (ob1 : A → List Ob) (hn : stk P F N Q ks .normal = M) (h1 : St.holds P F N Q (.code c (.mid (fun fr' hp' => ∃ a, R a ∧ MidP F (fr1 a) (ob1 a) fr' hp') :: ks)) fr hp) (h2 : ∀ a, R a → ∀ fr' hp', MidP F (fr1 a) (ob1 a) fr' hp' → M fr' hp') : St.holds P F N Q (.code c ks) fr hp := by
  refine ew_mono (Q := stk P F N Q (.mid (fun fr' hp' => ∃ a, R a ∧ MidP F (fr1 a) (ob1 a) fr' hp') :: ks)) h1 fun e fr' hp' h => ?_
  cases e with
  | normal =>
    obtain ⟨a, hR, hm⟩ := h
    rw [hn]
    exact h2 a hR _ _ hm
  | _ => exact h

theorem j_rangeF {α σ : Type} {c : Code} (l : List α) {f : Nat → α → σ → Option σ} {s0 r : σ} (h : rangeF f 0 l s0 = some r) (st : Nat → σ → Fr) (ob : σ → List Ob) (hm : MidP F (st 0 s0) (ob s0) fr hp)
    (round : ∀ i x s s', l[i]? = some x → i < l.length → f i x s = some s' → St.holds P F N Q (.code c (.mid (fun fr' hp' => MidP F (st (i + 1) s') (ob s') fr' hp') :: ks)) (st i s) (ob s))
    (done : St.holds P F N Q (.code c (.mid (fun _ _ => False) :: ks)) (st l.length r) (ob r)) :
    St.holds P F N Q (.code (.loop c) ks) fr hp := by
  refine j_range l (rangeF_M h) st ob hm (fun i x s y hx hlt hy _ => ?_) (fun s hs => by cases hs; exact done)
  obtain ⟨s', h1, h2⟩ := bi_ok hy
  cases h2
  refine ew_mono (round i x s s' hx hlt h1) fun e fr' hp' h => ?_
  cases e with
  | normal => exact ⟨s', rfl, h⟩
  | _ => exact h
theorem j_rangeI {σ ρ : Type} {c : Code} {n : Int} {f : Nat → σ → Option (LS σ ρ)} {s0 : σ} {r : LS σ ρ} (h : rangeI f n s0 = some r) (st : Nat → σ → Fr) (ob : σ → List Ob) (hm : MidP F (st 0 s0) (ob s0) fr hp)
    (round : ∀ (i : Nat) s y, (i : Int) < n → f i s = some y → (∀ r', y = .out r' → r = .out r') → St.holds P F N Q (.code c (.mid (fun fr' hp' => ∃ s', y = .go s' ∧ MidP F (st (i + 1) s') (ob s') fr' hp') :: ks)) (st i s) (ob s))
    (done : ∀ s, r = .go s → ¬ ((n.toNat : Int) < n) → St.holds P F N Q (.code c (.mid (fun _ _ => False) :: ks)) (st n.toNat s) (ob s)) :
    St.holds P F N Q (.code (.loop c) ks) fr hp := by
  refine j_range _ h st ob hm (fun i x s y hx hlt hy hr => round i s y (by simp at hlt; omega) hy hr) (fun s hs => ?_)
  have := done s hs (by omega)
  simpa using this
theorem j_rangeG {σ : Type} {c : Code} {n : Int} {f : Nat → σ → Option σ} {s0 r : σ} (h : rangeG f n s0 = some r) (st : Nat → σ → Fr) (ob : σ → List Ob) (hm : MidP F (st 0 s0) (ob s0) fr hp)
    (round : ∀ (i : Nat) s s', (i : Int) < n → f i s = some s' → St.holds P F N Q (.code c (.mid (fun fr' hp' => MidP F (st (i + 1) s') (ob s') fr' hp') :: ks)) (st i s) (ob s))
    (done : ¬ ((n.toNat : Int) < n) → St.holds P F N Q (.code c (.mid (fun _ _ => False) :: ks)) (st n.toNat r) (ob r)) :
    St.holds P F N Q (.code (.loop c) ks) fr hp := by
  refine j_rangeF _ h st ob hm (fun i x s s' hx hlt hy => round i s s' (by simp at hlt; omega) hy) ?_
  have := done (by omega)
  simpa using this

/-! ### A callee's new rows, taken as data -/
mutual
def G.lendD (hp : List Ob) : G → G
  | .sl id n => match hp[id]? with
    | some (.row _ _ _ ds) => .d (.ro n ds)
    | _ => .sl id n
  | .agg gs => .agg (G.lendDs hp gs)
  | .tup gs => .tup (G.lendDs hp gs)
  | g => g
def G.lendDs (hp : List Ob) : List G → List G
  | [] => []
  | g :: r => G.lendD hp g :: G.lendDs hp r
end
theorem G.lendDs_get {hp : List Ob} : ∀ {gs : List G} {j : Nat} {g : G}, (G.lendDs hp gs)[j]? = some g → ∃ g0, gs[j]? = some g0 ∧ g = g0.lendD hp
  | [], j, g, h => by simp [G.lendDs] at h
  | g0 :: r, 0, g, h => by simp [G.lendDs] at h; exact ⟨g0, rfl, h.symm⟩
  | g0 :: r, j + 1, g, h => by simp [G.lendDs] at h; exact G.lendDs_get (gs := r) h
theorem G.lendDs_length {hp : List Ob} : ∀ {gs : List G}, (G.lendDs hp gs).length = gs.length
  | [] => rfl
  | g :: r => by simp [G.lendDs, G.lendDs_length (gs := r)]
theorem VR.lendD {Z : Env} {w : World} {M : Mp} {hc : List Ob} (hr : RelH Z hc M w) {g : G} {v : Value} (h : VR w (ownZ Z hc M) M g v) (hb : (g.lendD hc).bel 0 = true) (hz : ∀ b, own hc M b → ¬ Z b) : VR w (ownZ Z [] []) [] (g.lendD hc) v := by
  have hO0 : ∀ b, ownZ Z [] [] b → ownZ Z hc M b := fun b hb => by
    rcases hb with ⟨i, o, c, h1, _⟩ | hb
    · simp at h1
    · exact .inr hb
  have hst : Stp w (ownZ Z hc M) w (ownZ Z [] []) := ⟨Nat.le_refl _, fun _ _ _ => rfl, fun b _ hb => hO0 b hb, rfl, rfl, rfl⟩
  induction h with
  | sl hM hn hm =>
    rename_i id n b c
    simp only [G.lendD] at hb ⊢
    split at hb
    · rename_i t sz m ds ho
      obtain ⟨_, cs, hblk, hcs, hnc, hcm, hdata⟩ := hr.obj id _ _ ho hM
      have hown : own hc M b := ⟨id, _, c, ho, rfl, hM⟩
      refine .d (.ro n ds b 0 c (fun j => cs.getD j undef) (hr.block_lt hown) ?_ hn hm (fun j d hd => ?_) (fun j d hd => ?_))
      · rintro (⟨i, o, c, h1, _⟩ | hz')
        · simp at h1
        · exact hz b hown (Z.hv b hz')
      · obtain ⟨u, e1, _⟩ := hdata j d hd
        rw [Nat.zero_add, cell_of_row w b j cs _ _ hblk]
        simp [e1]
      · obtain ⟨u, e1, e2⟩ := hdata j d hd
        simpa [e1] using e2.step hst
    · simp [G.bel, Nat.blt] at hb
  | slnil hM =>
    rename_i id
    simp only [G.lendD] at hb ⊢
    split at hb
    · rename_i t sz m ds ho
      obtain ⟨rfl, _⟩ := hr.obj id _ _ ho hM
      exact .d .nil
    · simp [G.bel, Nat.blt] at hb
  | agg hl _ ih =>
    refine .agg (by rw [G.lendDs_length]; exact hl) fun j g v hg hv => ?_
    obtain ⟨g0, hg0, rfl⟩ := G.lendDs_get hg
    exact ih j g0 v hg0 hv (G.belAll_spec.1 hb j _ hg)
  | tup hl _ ih =>
    refine .tup (by rw [G.lendDs_length]; exact hl) fun j g v hg hv => ?_
    obtain ⟨g0, hg0, rfl⟩ := G.lendDs_get hg
    exact ih j g0 v hg0 hv (G.belAll_spec.1 hb j _ hg)
  | slo h _ _ => simp [G.lendD, G.bel, Nat.blt] at hb
  | slonil h => simp [G.lendD, G.bel, Nat.blt] at hb
  | d h => exact .d (h.step hst)
  | ptr h => simp [G.lendD, G.bel, Nat.blt] at hb
  | map h => simp [G.lendD, G.bel, Nat.blt] at hb
  | rp vs hb' hO hc hv => exact (VR.rp (M := M) vs hb' hO hc hv).move (k := 0) hst (fun i hi => by omega) rfl
  | fn l1 l2 h1 h2 _ _ => exact (VR.fn l1 l2 h1 h2).move (k := 0) hst (fun i hi => by omega) hb
  | junk v => exact .junk v
/-- New rows that nobody writes any more are data. -/
theorem Pure.rows {f : FuncId} {gs : List G} {gr g' : G} {hc : List Ob} (h : EC P f gs [] fun g hp' => g = gr ∧ hp' = hc) (hg : gr.lendD hc = g') (hb : g'.bel 0 = true) : Pure P f gs g' := by
  subst hg
  intro Z w M vs hrel hsz hvs
  refine (h Z w M vs hrel hsz hvs).mono ?_
  rintro e w' ⟨v, g, hp', M', rfl, ⟨rfl, rfl⟩, h1, h2, h3, h4⟩
  have hM : M = [] := List.eq_nil_of_length_eq_zero hrel.len
  subst hM
  have hO : ∀ b, own hp' M' b → b < w.heap.size → False := fun b hb hlt => by
    obtain ⟨i, o, c, h, _⟩ := h3.own b hlt hb
    simp at h
  have hs : Stp w (own [] []) w' (own [] []) := ⟨h3.size, fun b hb _ => h3.keep b hb fun ⟨i, o, c, h, _⟩ => by simp at h, fun b _ h => h, h3.os, h3.tape, h3.output⟩
  exact ⟨v, _, [], [], rfl, ⟨rfl, rfl⟩, ⟨rfl, fun i o m h => by simp at h, fun b ⟨i, o, c, h, _⟩ => by simp at h, h1.old, h1.amb, fun i j oi oj b c c' h => by simp at h⟩, h2.lendD h1 hb h1.apart, hs, ⟨Nat.le_refl _, fun i hi => by simp at hi⟩⟩
end
end Go.Gk
namespace Go.Gk
theorem getZ_at {α : Type} {l : List α} {k : Int} {x : α} (h : getZ l k = some x) : l[k.toNat]? = some x := by
  obtain ⟨i, rfl, _, h⟩ := getZ_ok h
  simpa using h
end Go.Gk
namespace Go.Gk
def orI {A T : Type} (q : A ⊕ T) (f : A → Option T) : Option T := match q with
  | .inl a => f a
  | .inr v => some v
def goI {σ T : Type} (q : LS σ T) (f : σ → Option T) : Option T := match q with
  | .go s => f s
  | .out v => some v
def lsN {σ ρ : Type} (q : LS σ ρ) (f : σ → ρ) : Option ρ := match q with
  | .go s => some (f s)
  | .out a => some a
@[simp] theorem orI_inl {A T : Type} (a : A) (f : A → Option T) : orI (.inl a) f = f a := rfl
@[simp] theorem orI_inr {A T : Type} (v : T) (f : A → Option T) : orI (.inr v) f = some v := rfl
@[simp] theorem goI_go {σ T : Type} (s : σ) (f : σ → Option T) : goI (.go s) f = f s := rfl
@[simp] theorem goI_out {σ T : Type} (v : T) (f : σ → Option T) : goI (.out v) f = some v := rfl
@[simp] theorem lsN_go {σ ρ : Type} (s : σ) (f : σ → ρ) : lsN (.go s) f = some (f s) := rfl
@[simp] theorem lsN_out {σ ρ : Type} (a : ρ) (f : σ → ρ) : lsN (.out a) f = some a := rfl
theorem and_t {c x : Bool} (h : c = true) : x = (c && x) := by subst h; rfl
theorem and_f {c x : Bool} (h : c = false) : false = (c && x) := by subst h; rfl
theorem or_t {c x : Bool} (h : c = true) : true = (c || x) := by subst h; rfl
theorem or_f {c x : Bool} (h : c = false) : x = (c || x) := by subst h; rfl
section
variable {P : Program} {F N : Nat} {Q : GPost} {fr fr' : Fr} {hp : List Ob} {ks ks2 : List Kt}
theorem stk_nrm_iff {y : Code} : ∀ {ks : List Kt}, nrmK ks = some (y, ks2) → ∀ fr hp, stk P F N Q ks .normal fr hp = EW P F N y (stk P F N Q ks2) fr hp
  | [], h, _, _ => by cases h
  | .seq z :: ks, h, fr, hp => by cases h; rfl
  | .block i :: ks, h, fr, hp => stk_nrm_iff (ks := ks) h fr hp
  | .mid M :: ks, h, _, _ => by cases h
/-- The frame is known at least as well. -/
def Fr.Inc (a b : Fr) : Prop := ∀ t g, a.get t = some g → b.get t = some g
theorem ew_inc {c : Code} {Q : GPost} {a b : Fr} (hi : a.Inc b) (h : EW P F N c Q a hp) : EW P F N c Q b hp :=
  fun Z w0 O0 M0 w M ac hs ha hr => h Z w0 O0 M0 w M ac hs ha ⟨hr.heap, fun t g hg => hr.fr t g (hi t g hg), hr.size, hr.defers⟩
theorem GL_inc {ops : Array Oper} {QF : Fr → Prop} (hQ : ∀ a b : Fr, a.Inc b → QF a → QF b) : ∀ (l : List Oper) (a b : Fr), a.Inc b → GL P N hp ops QF l a → GL P N hp ops QF l b
  | [], a, b, hs, ⟨c, e, hq⟩ => ⟨b, rfl, hQ c b (fun t g h => hs t g (by rw [← e]; exact h)) hq⟩
  | o :: l, a, b, hs, ⟨g, ⟨hd, hy⟩, h⟩ => by
    have gd : ∀ j want v, FF.guard a.get ops j want = some v → FF.guard b.get ops j want = some v := fun j want v hb => by
      unfold FF.guard at *
      cases ht : (ops[j]?).bind (·.dst) with
      | none => rw [ht] at hb; simp at hb
      | some t =>
        rw [ht] at hb
        simp only [Option.bind_some] at hb ⊢
        cases hg : a.get t with
        | none => rw [hg] at hb; simp at hb
        | some g0 => rw [hs t g0 hg]; rw [hg] at hb; exact hb
    refine ⟨g, ⟨hd, ?_⟩, ?_⟩
    · rcases hy with ⟨j, want, h1, h2, h3⟩ | ⟨h1, fr, h2, h3⟩
      · exact .inl ⟨j, want, h1, gd _ _ _ h2, h3⟩
      · exact .inr ⟨h1.imp (fun h => h) fun ⟨j, want, e1, e2⟩ => ⟨j, want, e1, gd _ _ _ e2⟩, fr, fun t g' ht => ⟨(h2 t g' ht).1, hs _ _ (h2 t g' ht).2⟩, h3⟩
    · cases hdst : o.dst with
      | none => rw [hdst] at h; exact GL_inc hQ l a b hs h
      | some d =>
        rw [hdst] at h
        have e1 : FF.put a.get (some d) g = Fr.get ((d, g) :: a) := by rw [Fr.get_cons]; rfl
        have e2 : FF.put b.get (some d) g = Fr.get ((d, g) :: b) := by rw [Fr.get_cons]; rfl
        rw [e1] at h
        rw [e2]
        refine GL_inc hQ l _ _ (fun t g' ht => ?_) h
        rw [Fr.get_cons] at ht ⊢
        simp only at ht ⊢
        split
        · rename_i e; rw [if_pos e] at ht; exact ht
        · rename_i e; rw [if_neg e] at ht; exact hs t g' ht
/-- Ways of a row of operations meet, in a region that draws. -/
theorem d_cut {y : Code} (n : Nat) {full : Array Oper} {l : List Oper} (fr1 : Fr) (hn : nrmK ks = some (y, ks2)) (h1 : St.holds P F N Q (.draw full (l.take n) (.mid (MidP F fr1 hp) :: ks)) fr hp) (h2 : GL P N hp full (fun fr' => stk P F N Q ks .normal fr' hp) (l.drop n) fr1) :
    GL P N hp full (fun fr' => stk P F N Q ks .normal fr' hp) l fr := by
  have := gl_app (P := P) (N := N) (hp := hp) (ops := full) (QF := fun fr' => stk P F N Q ks .normal fr' hp) (QF1 := fun fr' => MidP F fr1 hp fr' hp) (l1 := l.take n) (l2 := l.drop n) (fr := fr) h1 (fun fr' hm => by
    refine GL_inc (fun a b hi h => ?_) _ fr1 fr' (fun t g h => hm.1.get t g h) h2
    rw [stk_nrm_iff hn] at h ⊢
    exact ew_inc hi h)
  rwa [List.take_append_drop] at this
end
end Go.Gk
