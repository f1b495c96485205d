/-
  THE GHOST LOGIC, PART 29: joins at any place, with ghost steps at the end of a way; guarded turns in regions that draw.
  THE GHOST LOGIC, PART 30: views of own rows from an offset on; append to a view, as data.
  THE GHOST LOGIC, PART 31: a row's end, cleared.
  THE GHOST LOGIC, PART 32: stores into rows, in regions that draw and turn objects.
  THE GHOST LOGIC, PART 33: elements of views.
-/
import Derived.Test.YtnjnmkpgedkffaaGk28
import Derived.ArgAppend
set_option linter.unusedVariables false
set_option linter.unusedSimpArgs false
set_option linter.unusedSectionVars false
namespace Go.Gk

theorem orI_l {A T : Type} {a : A} {f : A → Option T} {x : Option T} (h : orI (.inl a) f = x) : f a = x := h
theorem goI_l {σ T : Type} {a : σ} {f : σ → Option T} {x : Option T} (h : goI (.go a) f = x) : f a = x := h

section
variable {P : Program} {Γ : TypeId → Option TI} {F N : Nat} {Q : GPost} {fr fr' : Fr} {hp hp' : List Ob} {ks ks2 : List Kt}
theorem post_weak {Z : Env} {w0 w : World} {O0 : Ow} {M0 M : Mp} {e : Exit} {a : Act} {fr1 : Fr} {ob1 : List Ob} (hm : MidP F fr1 ob1 fr hp) (hq : Q e fr1 ob1) (hr : Rel Z hp M w fr a N) (hs : Stp w0 O0 w (own hp M)) (ha : Agr F M0 M) :
    Post Z F N Q w0 O0 M0 e a w := by
  obtain ⟨h1, ex, rfl, he | ⟨h2, h3, h4⟩⟩ := hm
  · subst he
    rw [List.append_nil] at hr hs
    exact ⟨fr1, ob1, M, hq, hr.sub h1, hs, ha⟩
  · exact ⟨fr1, ob1, _, hq, (hr.sub h1).cut h2 h3, stp_cut hs, ha.cut h4 (by rw [hr.heap.len]; simp)⟩
/-- It holds behind steps that only the proof takes. -/
def Cv (F N : Nat) (M : Fr → List Ob → Prop) (fr : Fr) (hp : List Ob) : Prop :=
  ∀ Z w M1 a, Rel Z hp M1 w fr a N → ∃ fr' hp' M', M fr' hp' ∧ Rel Z hp' M' w fr' a N ∧ Stp w (own hp M1) w (own hp' M') ∧ ∀ M0, Agr F M0 M1 → Agr F M0 M'
theorem cv_here {M : Fr → List Ob → Prop} (h : M fr hp) : Cv F N M fr hp := fun Z w M1 a hr => ⟨fr, hp, M1, h, hr, Stp.refl _ _, fun _ h => h⟩
theorem cv_ghost {M : Fr → List Ob → Prop} (hF : F ≤ hp.length) (h : ∀ Z w M a, Rel Z hp M w fr a N → ∃ M', Rel Z hp' M' w fr' a N ∧ Stp w (own hp M) w (own hp' M') ∧ Agr hp.length M M') (k : Cv F N M fr' hp') : Cv F N M fr hp := by
  intro Z w M1 a hr
  obtain ⟨M2, h1, h2, h3⟩ := h Z w M1 a hr
  obtain ⟨fr3, hp3, M3, k0, k1, k2, k3⟩ := k Z w M2 a h1
  exact ⟨fr3, hp3, M3, k0, k1, h2.trans k2, fun M0 h => k3 M0 (h.trans h3 hF)⟩
theorem cv_shr {M : Fr → List Ob → Prop} {te sz m : Nat} {ds : List D} (id : Nat) (L : List Nat) (fr2 : Fr) (hp2 : List Ob) (ho : hp[id]? = some (.row te sz m ds)) (hfr : Fr.shrAt id ds fr L = fr2) (hhp : (hp.map (Ob.shr id ds)).set id .dead = hp2) (hF : F ≤ hp.length)
    (k : Cv F N M fr2 hp2) : Cv F N M fr hp := by
  subst hfr; subst hhp
  exact cv_ghost hF (gh_shr id L ho) k
theorem cv_move {M : Fr → List Ob → Prop} (src dst : Nat) {o : Ob} (hp2 : List Ob) (ho : hp[src]? = some o) (hol : o.live = true) (hdst : hp[dst]? = some .dead) (hno : (hp.all fun o => !o.has dst) = true) (hF : Nat.ble F dst = true) (hhp : mvObs src dst o hp = hp2) (k : Cv F N M (fr.mv src dst) hp2) : Cv F N M fr hp := by
  subst hhp
  intro Z w M1 a hr
  obtain ⟨M2, h1, h2, h3, h4⟩ := gh_move src dst ho hol hdst hno Z w M1 a hr
  obtain ⟨fr3, hp3, M3, k0, k1, k2, k3⟩ := k Z w M2 a h1
  refine ⟨fr3, hp3, M3, k0, k1, h2.trans k2, fun M0 ha => k3 M0 ⟨by rw [h3]; exact ha.le, fun i hi => ?_⟩⟩
  rw [h4 i (by have := Nat.le_of_ble_eq_true hF; omega)]
  exact ha.eq i hi

theorem j_cutEZ {A : Type} {c : Code} {R : A → Prop} (fr1 : A → Fr) (ob1 : A → List Ob) (h1 : St.holds P F N Q (.code c (.mid (fun fr' hp' => ∃ a, R a ∧ MidP F (fr1 a) (ob1 a) fr' hp') :: ks)) fr hp)
    (h2 : ∀ a, R a → St.holds P F N Q (.fin .normal ks) (fr1 a) (ob1 a)) : St.holds P F N Q (.code c ks) fr hp := by
  intro Z w0 O0 M0 w M a hs ha hr
  refine wp_mono (h1 Z w0 O0 M0 w M a hs ha hr) ?_
  rintro e a' w' ⟨fr', hp', M', q, r1, r2, r3⟩
  cases e with
  | normal =>
    obtain ⟨x, hR, hm⟩ := q
    exact post_weak hm (h2 x hR) r1 r2 r3
  | _ => exact ⟨fr', hp', M', q, r1, r2, r3⟩
theorem j_cutEC {A : Type} {c : Code} {R : A → Prop} (fr1 : A → Fr) (ob1 : A → List Ob) (h1 : St.holds P F N Q (.code c (.mid (Cv F N fun fr' hp' => ∃ a, R a ∧ MidP F (fr1 a) (ob1 a) fr' hp') :: ks)) fr hp)
    (h2 : ∀ a, R a → St.holds P F N Q (.fin .normal ks) (fr1 a) (ob1 a)) : St.holds P F N Q (.code c ks) fr hp := by
  intro Z w0 O0 M0 w M a hs ha hr
  refine wp_mono (h1 Z w0 O0 M0 w M a hs ha hr) ?_
  rintro e a' w' ⟨fr', hp', M', q, r1, r2, r3⟩
  cases e with
  | normal =>
    obtain ⟨fr3, hp3, M3, ⟨x, hR, hm⟩, k1, k2, k3⟩ := q Z w' M' a' r1
    exact post_weak hm (h2 x hR) k1 (r2.trans k2) (k3 _ r3)
  | _ => exact ⟨fr', hp', M', q, r1, r2, r3⟩
theorem j_cutNZ {c : Code} (fr1 : Fr) (ob1 : List Ob) (h1 : St.holds P F N Q (.code c (.mid (MidP F fr1 ob1) :: ks)) fr hp) (h2 : St.holds P F N Q (.fin .normal ks) fr1 ob1) : St.holds P F N Q (.code c ks) fr hp := by
  intro Z w0 O0 M0 w M a hs ha hr
  refine wp_mono (h1 Z w0 O0 M0 w M a hs ha hr) ?_
  rintro e a' w' ⟨fr', hp', M', q, r1, r2, r3⟩
  cases e with
  | normal => exact post_weak q h2 r1 r2 r3
  | _ => exact ⟨fr', hp', M', q, r1, r2, r3⟩
theorem j_cutNC {c : Code} (fr1 : Fr) (ob1 : List Ob) (h1 : St.holds P F N Q (.code c (.mid (Cv F N (MidP F fr1 ob1)) :: ks)) fr hp) (h2 : St.holds P F N Q (.fin .normal ks) fr1 ob1) : St.holds P F N Q (.code c ks) fr hp := by
  intro Z w0 O0 M0 w M a hs ha hr
  refine wp_mono (h1 Z w0 O0 M0 w M a hs ha hr) ?_
  rintro e a' w' ⟨fr', hp', M', q, r1, r2, r3⟩
  cases e with
  | normal =>
    obtain ⟨fr3, hp3, M3, hm, k1, k2, k3⟩ := q Z w' M' a' r1
    exact post_weak hm h2 k1 (r2.trans k2) (k3 _ r3)
  | _ => exact ⟨fr', hp', M', q, r1, r2, r3⟩
theorem j_cutSZ {c : Code} {A T : Type} {q : A ⊕ T} (fr1 : A → Fr) (ob1 : A → List Ob) (h1 : St.holds P F N Q (.code c (.mid (fun fr' hp' => ∃ a, q = .inl a ∧ MidP F (fr1 a) (ob1 a) fr' hp') :: ks)) fr hp)
    (h2 : ∀ a, q = .inl a → St.holds P F N Q (.fin .normal ks) (fr1 a) (ob1 a)) : St.holds P F N Q (.code c ks) fr hp := j_cutEZ fr1 ob1 h1 h2
theorem j_cutSC {c : Code} {A T : Type} {q : A ⊕ T} (fr1 : A → Fr) (ob1 : A → List Ob) (h1 : St.holds P F N Q (.code c (.mid (Cv F N fun fr' hp' => ∃ a, q = .inl a ∧ MidP F (fr1 a) (ob1 a) fr' hp') :: ks)) fr hp)
    (h2 : ∀ a, q = .inl a → St.holds P F N Q (.fin .normal ks) (fr1 a) (ob1 a)) : St.holds P F N Q (.code c ks) fr hp := j_cutEC fr1 ob1 h1 h2
end

/-! ### Guarded turns -/
section
variable {P : Program} {Γ : TypeId → Option TI} {F N : Nat} {Q : GPost} {fr fr' : Fr} {hp hp' hpL : List Ob} {ks : List Kt} {ll hl bl : List Nat}
variable {ops : Array Oper} {rest : List Oper} {g : G} {QF : Fr → List Ob → Prop}
variable {d : Tmp} {op : Op} {ty : TypeId} {pos : String} {after : Array Edge} {k : Nat} {j : Nat} {want : Bool}
variable {fop : Operand} {args : Array Operand} {ts : Array TypeId} {f : FuncId} {g1 g2 gs : List G}
theorem ge_callPg {r : G} {gs' : List G} (hg : fr.guard ops j want = some true) (hcl : Callable P f) (hc : Pure P f gs r) (hd : Nat.blt d N = true) (hf : (fr.only (Oper.looksAt ops ⟨some d, .call ⟨.value fop, args, ts⟩, ty, pos, after, some (j, want)⟩)).ev fop = some (.fn (.func f) g1 g2))
    (ha : args.toList.mapM (fr.only (Oper.looksAt ops ⟨some d, .call ⟨.value fop, args, ts⟩, ty, pos, after, some (j, want)⟩)).ev = some gs') (hgs : gs = g1 ++ gs' ++ g2) (hb : G.belAll 0 gs = true) (hb' : r.bel 0 = true)
    (kk : GE P N hpL ll hl bl ops QF (k + 1) rest ((d, r) :: fr) hp) (hnn : noNew bl k = true := by rfl) : GE P N hpL ll hl bl ops QF k (⟨some d, .call ⟨.value fop, args, ts⟩, ty, pos, after, some (j, want)⟩ :: rest) fr hp := by
  subst hgs
  exact ge_q hd (.inr ⟨j, want, rfl, hg⟩) (fun hp _ => qte_of_qt (qt_pure hf ha hcl hc hb hb')) kk hnn
theorem ge_litTg {α : Type} {enc : α → List D} (hΓ : TOK P Γ) {t e : TypeId} {len : Nat} {i1 i2 : TI} {parts : Array (Nat × Operand)} {pg : List (Nat × G)} {gs : List G} (l : List α) (hg : fr.guard ops j want = some true) (h1 : Γ t = some i1) (h1' : i1.desc = .slice e) (h2 : Γ e = some i2)
    (hz : (i2.zero.cells.toList.all (·.oneCell')) = true) (hz' : Nat.blt 0 i2.zero.cells.size = true) (hlen : Nat.ble (len * i2.size) 16777216 = true) (hlen' : Nat.ble len 16777216 = true) (hp' : evParts (fr.only (Oper.looksAt ops ⟨some d, .buildSlice t len parts, ty, pos, after, some (j, want)⟩)) parts.toList = some pg) (hf : fillG (fun i => some (i * i2.size, i2.size)) (zerosG i2 len) pg = some gs) (hds : toDs gs = some (l.flatMap enc)) (hlq : len = l.length)
    (hd : Nat.blt d N = true) (kk : GE P N hpL ll hl bl ops QF (k + 1) rest ((d, .d (Sl enc l)) :: fr) hp) (hnn : noNew bl k = true := by rfl) : GE P N hpL ll hl bl ops QF k (⟨some d, .buildSlice t len parts, ty, pos, after, some (j, want)⟩ :: rest) fr hp := by
  subst hlq
  exact ge_q hd (.inr ⟨j, want, rfl, hg⟩) (fun hp _ => qte_of_qt (qt_lit hΓ h1 h1' h2 hz hz' hlen hlen' hp' hf hds)) kk hnn
theorem ge_hg (hp' : List Ob) (hg : fr.guard ops j want = some true) (hd : Nat.blt d N = true) (hh : inL hl k = true) (hlen : Nat.ble hp.length hp'.length = true) (hst : inL bl k = false → Stays hpL hp → Stays hpL hp') (hq : QtE P N ⟨some d, op, ty, pos, after, some (j, want)⟩ (fr.only (Oper.looksAt ops ⟨some d, op, ty, pos, after, some (j, want)⟩)) hp g hp') (kk : GE P N hpL ll hl bl ops QF (k + 1) rest ((d, g) :: fr) hp') (hnn : noNew bl k = true := by rfl) : GE P N hpL ll hl bl ops QF k (⟨some d, op, ty, pos, after, some (j, want)⟩ :: rest) fr hp := by
  refine ⟨_, g, hp', .inr (.inr (.inl ⟨hh, ⟨fun d' h => by cases h; exact nblt.1 hd, .inr ⟨j, want, rfl, hg⟩, Nat.le_of_ble_eq_true hlen, _, fun t g' h => Fr.only_get h, hq⟩, rfl, noNew_ok hnn, hst⟩)), ?_⟩
  unfold GE at kk
  rw [Fr.get_cons] at kk
  exact kk
theorem ge_h0g (hp' : List Ob) (hg : fr.guard ops j want = some true) (hh : inL hl k = true) (hlen : Nat.ble hp.length hp'.length = true) (hst : inL bl k = false → Stays hpL hp → Stays hpL hp') (hq : QtE P N ⟨none, op, ty, pos, after, some (j, want)⟩ (fr.only (Oper.looksAt ops ⟨none, op, ty, pos, after, some (j, want)⟩)) hp g hp') (kk : GE P N hpL ll hl bl ops QF (k + 1) rest fr hp') (hnn : noNew bl k = true := by rfl) : GE P N hpL ll hl bl ops QF k (⟨none, op, ty, pos, after, some (j, want)⟩ :: rest) fr hp :=
  ⟨none, g, hp', .inr (.inr (.inl ⟨hh, ⟨(fun d' h => by cases h), .inr ⟨j, want, rfl, hg⟩, Nat.le_of_ble_eq_true hlen, _, fun t g' h => Fr.only_get h, hq⟩, rfl, noNew_ok hnn, hst⟩)), kk⟩
end
end Go.Gk
namespace Go.Gk

theorem setCells_keep (b : Nat) : ∀ (vs : List Value) (o : Nat) (w : World), (w.setCells b o vs).heap.size = w.heap.size ∧ (w.setCells b o vs).os = w.os ∧ (w.setCells b o vs).tape = w.tape ∧ (w.setCells b o vs).output = w.output ∧ ∀ k, k ≠ b → (w.setCells b o vs).heap[k]? = w.heap[k]?
  | [], o, w => ⟨rfl, rfl, rfl, rfl, fun _ _ => rfl⟩
  | v :: r, o, w => by
    obtain ⟨h1, h2, h3, h4, h5⟩ := setCells_keep b r (o + 1) (w.setCell ⟨b, o, none⟩ v)
    simp only [World.setCells]
    refine ⟨h1.trans (by simp [World.setCell]), h2.trans rfl, h3.trans rfl, h4.trans rfl, fun k hk => (h5 k hk).trans ?_⟩
    simp [World.setCell, Array.getElem?_modify, Ne.symm hk]

section
variable {P : Program} {Γ : TypeId → Option TI} {F N : Nat} {Q : GPost} {fr fr' : Fr} {hp hp' : List Ob} {ks : List Kt}
variable {α : Type} {enc : α → List D} {ops : Array Oper} {rest : List Oper} {g : G}
variable {d : Tmp} {op : Op} {ty : TypeId} {pos : String} {after : Array Edge} {gd' : Option (Nat × Bool)}

/-- What append does with a view. -/
theorem appv_core {w : World} {t te tyo : TypeId} {inf : TypeInfo} {z : Value} {b off n m cap : Nat} {xv : Value} {olds news : List Value} (hu : P.underlying t = some (.slice te)) (hi : P.info? te = some inf) (hz : inf.zero = some z) (hzs : z.cells.size = inf.size) (hz0 : 0 < inf.size)
    (hbw : b < w.heap.size) (hlo : olds.length = n * inf.size) (holds : ∀ (j : Nat) (u : Value), olds[j]? = some u → w.cell? ⟨b, off + j, none⟩ = some u) (hnc : n ≤ cap) (hcm : cap ≤ maxLen)
    (hroomc : ∀ j, j < (cap - n) * inf.size → (w.cell? ⟨b, off + n * inf.size + j, none⟩).isSome = true) (hroomf : ∀ j, w.frozen? ⟨b, j, none⟩ = false)
    (hx : (xv = .slice none 0 0 ∧ m = 0 ∧ news = []) ∨ ∃ b off cap, xv = .slice (some ⟨b, off, none⟩) m cap ∧ (∀ (j : Nat) (u : Value), news[j]? = some u → w.cell? ⟨b, off + j, none⟩ = some u)) (hl : news.length = m * inf.size) (h1 : ∀ u ∈ news, u.oneCell' = true)
    (hm : n + m ≤ maxLen) (hb : (n + m) * inf.bytes ≤ 140737488355328) :
    ∃ w' b' off' c', (Builtin.append_ #[t, t] tyo #[.slice (some ⟨b, off, none⟩) n cap, xv]).run P w = .ok (.slice (some ⟨b', off', none⟩) (n + m) c') w' ∧ w.heap.size ≤ w'.heap.size ∧ w'.os = w.os ∧ w'.tape = w.tape ∧ w'.output = w.output ∧
      n + m ≤ c' ∧ c' ≤ maxLen ∧ b' < w'.heap.size ∧ (∀ (j : Nat) (u : Value), (olds ++ news)[j]? = some u → w'.cell? ⟨b', off' + j, none⟩ = some u) ∧ (∀ k, k < w.heap.size → k ≠ b → w'.heap[k]? = w.heap[k]?) ∧ (b' = b ∨ w.heap.size ≤ b') := by
  rcases hx with ⟨rfl, rfl, rfl⟩ | ⟨xb, xo, xc, rfl, hxcell⟩
  · refine ⟨w, b, off, cap, ?_, Nat.le_refl _, rfl, rfl, rfl, by omega, hcm, hbw, fun j u h => holds j u (by simpa using h), fun _ _ _ => rfl, .inl rfl⟩
    simp [Builtin.append_, run_underlying hu, sizeOf, typeInfo, hi, Builtin.lenOf, Builtin.firstCells, hnc, storeCells]
  · have hxc' : ∀ (j : Nat) (u : Value), news[j]? = some u → w.cell? ((⟨xb, xo, none⟩ : Addr).add j) = some u := fun j u hj => by rw [Addr.add_lit]; exact hxcell j u hj
    by_cases hroom : n + m ≤ cap
    · have hin : ∀ j, j < news.length → j < (cap - n) * inf.size := fun j hj => by
        rw [hl] at hj
        exact Nat.lt_of_lt_of_le hj (Nat.mul_le_mul_right _ (by omega))
      have hr := run_append_room_cells (P := P) w t tyo te inf hu hi b off n cap ⟨xb, xo, none⟩ m xc news hl hxc' h1 hroom (fun j hj => hroomc j (hin j hj)) (fun j _ => hroomf _)
      obtain ⟨k1, k2, k3, k4, k5⟩ := setCells_keep b news (off + n * inf.size) w
      refine ⟨_, b, off, cap, hr, Nat.le_of_eq k1.symm, k2, k3, k4, hroom, hcm, by rw [k1]; exact hbw, fun j u hj => ?_, fun k _ hk => k5 k hk, .inl rfl⟩
      by_cases hjn : j < olds.length
      · rw [List.getElem?_append_left hjn] at hj
        rw [World.cell?_setCells_out b news _ w _ (fun _ _ => .inl (by show off + j < _; omega))]
        exact holds j u hj
      · rw [List.getElem?_append_right (by omega)] at hj
        have hlt : j - olds.length < news.length := (List.getElem?_eq_some_iff.1 hj).1
        have := World.cell?_setCells_in b news (off + n * inf.size) w (fun j hj => hroomc j (hin j hj)) (j - olds.length) hlt
        have e : off + n * inf.size + (j - olds.length) = off + j := by omega
        rw [e] at this
        rw [this, ← hj, List.getElem?_eq_getElem hlt]
    · obtain ⟨v', w', r1, r2, r3⟩ := run_append_arg_grows (P := P) w t tyo te inf z inf.size inf.bytes hu hi hz rfl rfl hzs hz0 ⟨b, off, none⟩ n cap olds hlo (fun j u hj => by rw [Addr.add_lit]; exact holds j u hj) ⟨xb, xo, none⟩ m xc news hl hxc' (by omega) hm hb
      rcases r2.2 with ⟨rfl, hn0⟩ | ⟨g, c', cur, rfl, q1, q2, q3, q4, q5, q6⟩
      · omega
      · have hglt : g < w'.heap.size := (Array.getElem?_eq_some_iff.1 q2).1
        have hcells := r2.cells (g := g) rfl
        exact ⟨w', g, 0, c', r1, r3.size, r3.os, r3.tape, r3.output, q3, q4, hglt, fun j u hj => by have := hcells j u hj; rw [Addr.add_lit] at this; exact this, fun k hk _ => r3.block k hk (by simp), .inr q1⟩

theorem cellD {w : World} {O : Ow} {cs : Array Value} {ds : List D} (h : DataR w O cs ds) (j : Nat) (hj : j < ds.length) : ∃ v, cs[j]? = some v ∧ VD w O (ds[j]'hj) v := h j _ (List.getElem?_eq_getElem hj)

/-- APPEND to a view that reaches the row's end: what comes out is data; the row is let go. -/
theorem ops_appendTail (hΓ : TOK P Γ) {t te : TypeId} {i1 i2 : TI} {x y : Operand} {id o n m : Nat} {ds ys : List D} (h1 : Γ t = some i1) (h1' : i1.desc = .slice te) (h2 : Γ te = some i2) (hz : Nat.beq i2.zero.cells.size i2.size = true) (hz0 : Nat.blt 0 i2.size = true) (ho0 : Nat.blt 0 o = true)
    (hx : fr.ev x = some (.slo id i2.size o n)) (ho : hp[id]? = some (.row te i2.size (o + n) ds)) (hy : fr.ev y = some (.d (.ro m ys))) (hl : ys.length = m * i2.size) (hb : (n + m) * i2.bytes ≤ 140737488355328) (hm : n + m ≤ maxLen) :
    OpS P N ⟨some d, .call ⟨.builtin .append, #[x, y], #[t, t]⟩, ty, pos, after, gd'⟩ fr hp (.d (.ro (n + m) (ds.drop (o * i2.size) ++ ys))) (hp.set id .dead) := by
  intro Z w M a hr
  obtain ⟨u1, _⟩ := hΓ t _ h1
  rw [h1'] at u1
  obtain ⟨_, inf, e1, e2, e3, e4⟩ := hΓ te _ h2
  have hid : id < hp.length := (List.getElem?_eq_some_iff.1 ho).1
  have hidM : id < M.l.length := by rw [hr.heap.len]; exact hid
  have hzs : i2.zero.cells.size = inf.size := by rw [e2]; exact Nat.eq_of_beq_eq_true hz
  have hvx := hr.ev hx
  have hvy := hr.ev hy
  have hsrc : ∃ news : List Value, ((a.eval y = .slice none 0 0 ∧ m = 0 ∧ news = []) ∨ ∃ b off cap, a.eval y = .slice (some ⟨b, off, none⟩) m cap ∧ (∀ (j : Nat) (u : Value), news[j]? = some u → w.cell? ⟨b, off + j, none⟩ = some u)) ∧
      news.length = ys.length ∧ (∀ (j : Nat) (u : Value) (d : D), news[j]? = some u → ys[j]? = some d → VD w (ownZ Z hp M) d u) ∧ ∀ u ∈ news, u.oneCell' = true := by
    cases hvy with
    | d hd =>
      rcases data_cells hd with ⟨e, rfl, rfl⟩ | ⟨b, off, cap, vs, e, hl, hc, hv, h1⟩
      · exact ⟨[], .inl ⟨e, rfl, rfl⟩, rfl, fun j u d h => by simp at h, fun u h => by cases h⟩
      · exact ⟨vs, .inr ⟨b, off, cap, e, hc⟩, hl, hv, h1⟩
  obtain ⟨news, hsrc1, hsrc2, hsrc3, hsrc4⟩ := hsrc
  generalize hvv : a.eval x = vx at hvx
  cases hvx with
  | slonil h => exact absurd (nblt.1 ho0) (by omega)
  | slo hM hn hcm =>
  rename_i b c
  have hob := hr.heap.obj id _ _ ho (List.getElem?_eq_getElem hidM)
  have hMid : M.l[id]? = some (some (b, c)) := hM
  rw [List.getElem?_eq_getElem hidM] at hMid
  rw [Option.some.inj hMid] at hob
  obtain ⟨hdl, cs, hbk, hcs, hnc, hcm', hcr⟩ := hob
  have hliveo : obOwn hp M b := ⟨id, _, c, ho, rfl, hM⟩
  have hlive : own hp M b := .inl hliveo
  have hblt : b < w.heap.size := (Array.getElem?_eq_some_iff.1 hbk).1
  have hcell : ∀ j, w.cell? ⟨b, j, none⟩ = cs[j]? := fun j => cell_of_row w b j cs te _ hbk
  let off := if c = o then 0 else o * i2.size
  have hoff : ∀ j, j < (c - o) * i2.size → off + j = o * i2.size + j := fun j hj => by
    simp only [off]
    split
    · rename_i h; subst h; simp at hj
    · rfl
  have hcmul : (c - o) * i2.size = c * i2.size - o * i2.size := Nat.mul_sub_right_distrib c o i2.size
  have hole : o * i2.size ≤ c * i2.size := Nat.mul_le_mul_right _ (by omega)
  have hnle : n * i2.size ≤ (c - o) * i2.size := Nat.mul_le_mul_right _ (by omega)
  have hdd : (ds.drop (o * i2.size)).length = n * i2.size := by rw [List.length_drop, hdl, Nat.add_mul]; omega
  let olds := (cs.toList.drop (o * i2.size)).take (n * i2.size)
  have hol : olds.length = n * i2.size := by simp only [olds, List.length_take, List.length_drop, Array.length_toList, hcs]; omega
  have holds : ∀ (j : Nat) (u : Value), olds[j]? = some u → cs[o * i2.size + j]? = some u ∧ j < n * i2.size := fun j u hj => by
    have hlt : j < n * i2.size := by rw [← hol]; exact (List.getElem?_eq_some_iff.1 hj).1
    simp only [olds] at hj
    rw [List.getElem?_take_of_lt hlt, List.getElem?_drop] at hj
    exact ⟨by simpa using hj, hlt⟩
  obtain ⟨w', b', off', c', hrun, g1, g2, g3, g4, g5, g6, g7, g8, g9, g10⟩ := appv_core (P := P) (w := w) (tyo := ty) (b := b) (off := off) (n := n) (m := m) (cap := c - o) (xv := a.eval y) (olds := olds) (news := news) u1 e1 e4 hzs (by rw [e2]; exact nblt.1 hz0) hblt (by rw [hol, e2])
    (fun j u hj => by
      obtain ⟨q1, q2⟩ := holds j u hj
      rw [hcell, hoff j (by omega)]; exact q1) (by omega) (by omega)
    (fun j hj => by
      rw [e2, Nat.mul_sub_right_distrib] at hj
      rw [hcell, e2, show off + n * i2.size + j = off + (n * i2.size + j) by omega, hoff _ (by omega)]
      rw [Array.getElem?_eq_getElem (by rw [hcs]; omega)]; rfl)
    (fun j => by simp [World.frozen?, hbk]) hsrc1 (by rw [hsrc2, hl, e2]) hsrc4 hm (by rw [e3]; exact hb)
  have hcase : ∀ (i : Nat) (o' : Ob), (hp.set id .dead)[i]? = some o' → (i ≠ id ∧ hp[i]? = some o') ∨ (i = id ∧ o' = .dead) := fun i o' h => by
    by_cases hii : i = id
    · subst hii; simp [hid] at h; exact .inr ⟨rfl, h.symm⟩
    · rw [List.getElem?_set_ne (Ne.symm hii)] at h; exact .inl ⟨hii, h⟩
  have hobo : ∀ b, obOwn (hp.set id .dead) M b → obOwn hp M b := by
    rintro b2 ⟨i, o', c2, q1, q2, q3⟩
    rcases hcase i o' q1 with ⟨_, q4⟩ | ⟨rfl, rfl⟩
    · exact ⟨i, o', c2, q4, q2, q3⟩
    · cases q2
  have hown : ∀ b, own (hp.set id .dead) M b → own hp M b := fun b h => own_imp h (hobo b) (fun g => g.of (bag_set rfl)) rfl
  have hnet : ∀ x : Tg, some x ∈ M.h → x.b ≠ b := fun x hx e => (hr.heap.bags.tgs x hx).2 (e ▸ hliveo)
  have hne : ∀ b2, own (hp.set id .dead) M b2 → b2 ≠ b := by
    rintro b2 (⟨i, o', c2, q1, q2, q3⟩ | ⟨_, x, hx, rfl⟩)
    · rintro rfl
      rcases hcase i o' q1 with ⟨q5, q4⟩ | ⟨rfl, rfl⟩
      · exact q5 (hr.heap.inj i id o' _ b2 c2 c q4 ho q2 rfl q3 hM)
      · cases q2
    · exact hnet x hx
  have htags : ∀ x : Tg, some x ∈ M.h → w'.heap[x.b]? = w.heap[x.b]? := fun x hx => g9 _ (hr.heap.bags.tgs x hx).1 (hnet x hx)
  have hst : Stp w (own hp M) w' (own (hp.set id .dead) M) := .mk' g1 (fun k hk hn => g9 k hk fun e => by subst e; exact hn hlive) (fun b _ h => hown b h) g2 g3 g4 rfl (fun g => g.of (bag_set rfl)) htags
  have hb'own : ¬ ownZ Z (hp.set id .dead) M b' := by
    rintro (h | h)
    · rcases g10 with rfl | h'
      · exact hne _ h rfl
      · exact absurd (hr.heap.block_lt (hown _ h)) (by omega)
    · rcases g10 with rfl | h'
      · exact hr.heap.apart _ hlive (Z.hv _ h)
      · exact absurd (hr.heap.old _ (Z.hv _ h)) (by omega)
  refine ⟨.slice (some ⟨b', off', none⟩) (n + m) c', w', M, ?_, ⟨by simp [hr.heap.len], fun i o' m' q1 q2 => ?_, fun b2 hb2 hz => hr.heap.apart b2 (hown b2 hb2) hz, fun b hz => Nat.lt_of_lt_of_le (hr.heap.old b hz) g1, hr.heap.amb_stp hst, fun i j oi oj b c c' hi hj li lj mi mj => ?_, hr.heap.bags.mono rfl g1 (fun b _ => hobo b) (bag_set rfl)⟩, ?_, hst, ⟨Nat.le_of_eq hr.heap.len.symm, fun i hi => rfl⟩⟩
  · simp only [off] at hrun
    simp [execOp, resolve, invoke, builtin, hvv, hrun]
  · rcases hcase i o' q1 with ⟨q5, q4⟩ | ⟨rfl, rfl⟩
    · have hob := hr.heap.obj i o' m' q4 q2
      exact hob.move (k := M.l.length) (stp_z Z hst) (fun _ _ => rfl) hob.bel (fun b2 c2 e hl2 => by
        subst e
        exact g9 b2 (hr.heap.block_ob ⟨i, o', c2, q4, hl2, q2⟩) (hne b2 (.inl ⟨i, o', c2, q1, hl2, q2⟩))) fun _ _ => ⟨rfl, htags⟩
    · cases m' <;> trivial
  · rcases hcase i oi hi with ⟨a1, a2⟩ | ⟨rfl, rfl⟩
    · rcases hcase j oj hj with ⟨b1, b2⟩ | ⟨rfl, rfl⟩
      · exact hr.heap.inj i j oi oj b c c' a2 b2 li lj mi mj
      · cases lj
    · cases li
  · refine .d (.ro _ _ b' off' c' (fun j => ((olds ++ news)[j]?).getD default) g7 (fun _ _ hbad => absurd hbad hb'own) g5 g6 (fun j dd hj => ?_) (fun j dd hj => ?_))
    all_goals
      have hjl : j < (olds ++ news).length := by
        rw [List.length_append, hol, hsrc2]
        have := (List.getElem?_eq_some_iff.1 hj).1
        rwa [List.length_append, hdd] at this
      rw [List.getElem?_eq_getElem hjl]
    · exact g8 j _ (List.getElem?_eq_getElem hjl)
    · show VD w' _ dd ((olds ++ news)[j])
      have hu := List.getElem?_eq_getElem hjl
      generalize (olds ++ news)[j] = u at hu
      refine VD.step (stp_z Z hst) ?_
      by_cases hjn : j < n * i2.size
      · rw [List.getElem?_append_left (by omega)] at hu hj
        obtain ⟨q1, _⟩ := holds j u hu
        rw [List.getElem?_drop] at hj
        obtain ⟨v, f1, f2⟩ := hcr _ dd hj
        rw [q1] at f1
        cases f1
        exact f2
      · rw [List.getElem?_append_right (by omega)] at hu hj
        rw [hol] at hu
        rw [hdd] at hj
        exact hsrc3 _ u dd hu hj

/-- A view of a row from an offset on. -/
theorem op_viewZ (hΓ : TOK P Γ) {t e : TypeId} {i1 i2 : TI} {x : Operand} {lo : Option Operand} {n id k : Nat} {l r : List α} (hz : subZ l (k : Int) (l.length : Int) = some r) (h1 : Γ t = some i1) (h1' : i1.desc = .slice e) (h2 : Γ e = some i2) (hx : fr.ev x = some (.sl id n)) (hn : n = l.length) (hlo : fr.bound lo 0 = some (k : Int)) :
    OpP P N ⟨some d, .slice t x lo none none, ty, pos, after, gd'⟩ fr hp (.slo id i2.size k r.length) := fun Z w M a hr => by
  obtain ⟨u1, _⟩ := hΓ t _ h1
  rw [h1'] at u1
  have hs := run_size' (P := P) (w := w) hΓ h2
  obtain ⟨a', b', ea, eb, e1, e2, rfl⟩ := subZ_ok hz
  obtain rfl : a' = k := by omega
  obtain rfl : b' = l.length := by omega
  have hrl : ((l.take l.length).drop a').length = l.length - a' := by simp
  rw [hrl]
  have hvx := hr.ev hx
  simp only [execOp, Option.map_none]
  generalize a.eval x = vx at hvx
  cases hvx with
  | slnil hM =>
    have h0 : l.length = 0 := hn.symm
    have ha0 : a' = 0 := by omega
    subst ha0
    have hb : (Instr.sliceBounds true 0 0 (lo.map a.eval) none none).run P w = .ok (0, 0, 0) w := run_bounds (P := P) (w := w) hr (b := true) (l := 0) (len := 0) (cap := 0) (hi := none) hlo rfl (Nat.le_refl _) (Nat.le_refl _)
    rw [h0]
    exact ⟨.slice none 0 0, by simp [Instr.sliceAt, Instr.slice, run_underlying u1, hb, hs], .slonil hM⟩
  | sl hM hnc hm =>
    rename_i b c
    subst hn
    have hb : (Instr.sliceBounds true l.length c (lo.map a.eval) none none).run P w = .ok (a', l.length, c) w := run_bounds (P := P) (w := w) hr (b := true) (l := a') (len := l.length) (cap := c) (hi := none) hlo rfl e1 hnc
    refine ⟨.slice (some ⟨b, if c = a' then 0 else a' * i2.size, none⟩) (l.length - a') (c - a'), ?_, .slo hM (by omega) hm⟩
    by_cases hc : c = a'
    · subst hc; simp [Instr.sliceAt, Instr.slice, run_underlying u1, hb, hs]
    · simp [Instr.sliceAt, Instr.slice, run_underlying u1, hb, hs, hc, Addr.add_lit]; try omega

/-- APPEND to a view, on typed data. -/
theorem ops_appendTailT (hΓ : TOK P Γ) {t te : TypeId} {i1 i2 : TI} {x y : Operand} {id k n sz : Nat} {l m r z : List α} (hz : subZ l (k : Int) (l.length : Int) = some z) (ha : apd z m = some r) (h1 : Γ t = some i1) (h1' : i1.desc = .slice te) (h2 : Γ te = some i2) (hzc : Nat.beq i2.zero.cells.size i2.size = true) (hz0 : Nat.blt 0 i2.size = true) (hk : Nat.blt 0 k = true)
    (hx : fr.ev x = some (.slo id sz k n)) (hsz : sz = i2.size) (hn : n = z.length) (ho : hp[id]? = some (.row te i2.size l.length (l.flatMap enc))) (hy : fr.ev y = some (.d (Sl enc m))) (henc : ∀ y, (enc y).length = i2.size) (hbytes : Nat.ble (4294967296 * i2.bytes) 140737488355328 = true) :
    OpS P N ⟨some d, .call ⟨.builtin .append, #[x, y], #[t, t]⟩, ty, pos, after, gd'⟩ fr hp (.d (Sl enc r)) (hp.set id .dead) := by
  subst hsz; subst hn
  obtain ⟨rfl, hle⟩ := apd_ok ha
  obtain ⟨a', b', ea, eb, e1, e2, rfl⟩ := subZ_ok hz
  obtain rfl : a' = k := by omega
  obtain rfl : b' = l.length := by omega
  have hrl : ((l.take l.length).drop a').length = l.length - a' := by simp
  have hb := Nat.le_of_ble_eq_true hbytes
  have hmul : (((l.take l.length).drop a').length + m.length) * i2.bytes ≤ 4294967296 * i2.bytes := Nat.mul_le_mul_right _ hle
  have := ops_appendTail (P := P) (N := N) (d := d) (ty := ty) (pos := pos) (after := after) (gd' := gd') hΓ (o := a') (n := ((l.take l.length).drop a').length) h1 h1' h2 hzc hz0 hk hx (by rw [ho, hrl]; congr 2; omega) hy (flat_len henc m) (by omega) (by simp only [maxLen]; omega)
  have e : Sl enc ((l.take l.length).drop a' ++ m) = .ro (((l.take l.length).drop a').length + m.length) ((l.flatMap enc).drop (a' * i2.size) ++ m.flatMap enc) := by
    unfold Sl
    rw [List.length_append, List.flatMap_append, List.take_length, flat_drop henc]
  rw [e]
  exact this
end
end Go.Gk
namespace Go.Gk

theorem zeroCells_one {z : Array Value} (h : z.toList.all (·.oneCell') = true) (n : Nat) : ∀ v ∈ (Builtin.zeroCells z n).toList, v.oneCell' = true := by
  intro v hv
  simp only [Builtin.zeroCells, Array.toList_map, List.mem_map] at hv
  obtain ⟨i, hi, rfl⟩ := hv
  have hi' : i < n * z.size := by simpa using hi
  have hpos : 0 < z.size := by
    rcases Nat.eq_zero_or_pos z.size with h0 | h0
    · rw [h0] at hi'; omega
    · exact h0
  have hlt : i % z.size < z.size := Nat.mod_lt _ hpos
  rw [getElem!_pos z (i % z.size) hlt]
  exact List.all_eq_true.1 h _ (by simp)

section
variable {P : Program} {Γ : TypeId → Option TI} {F N : Nat} {Q : GPost} {fr fr' : Fr} {hp hp' : List Ob} {ks : List Kt}
variable {α : Type} {enc : α → List D} {ops : Array Oper} {rest : List Oper} {g : G}
variable {d : Tmp} {op : Op} {ty : TypeId} {pos : String} {after : Array Edge} {gd' : Option (Nat × Bool)}

/-- An operation whose value nobody keeps. -/
theorem eo_s0 (hF : F ≤ hp.length) (ho : OpS P N ⟨none, op, ty, pos, after, none⟩ fr hp g hp') (h : EO P F N ops rest Q fr hp') :
    EO P F N ops (⟨none, op, ty, pos, after, none⟩ :: rest) Q fr hp := by
  intro Z w0 O0 M0 w M a hs ha hr
  refine wpList_plain rfl fun K hK => ?_
  obtain ⟨v, w', M', hrun, h1, h2, h3, h4⟩ := ho Z w M a hr
  unfold Oper.wp
  rw [hrun, Oper.upon_value]
  exact hK _ _ (h Z w0 O0 M0 w' M' _ (hs.trans h3) (ha.trans h4 hF) (hr.later h1 h3 h4))

theorem ops_clear (hΓ : TOK P Γ) {t te : TypeId} {i1 i2 : TI} {x : Operand} {id o n : Nat} {ds : List D} (h1 : Γ t = some i1) (h1' : i1.desc = .slice te) (h2 : Γ te = some i2) (hz : Nat.beq i2.zero.cells.size i2.size = true) (hz1 : (i2.zero.cells.toList.all (·.oneCell')) = true)
    (hx : fr.ev x = some (.slo id i2.size o n)) (ho : hp[id]? = some (.row te i2.size (o + n) ds)) :
    OpS P N ⟨none, .call ⟨.builtin .clear, #[x], #[t]⟩, ty, pos, after, gd'⟩ fr hp (.tup []) (hp.set id (.row te i2.size o (ds.take (o * i2.size)))) := by
  intro Z w M a hr
  obtain ⟨u1, _⟩ := hΓ t _ h1
  rw [h1'] at u1
  obtain ⟨_, inf, e1, e2, e3, e4⟩ := hΓ te _ h2
  have hid : id < hp.length := (List.getElem?_eq_some_iff.1 ho).1
  have hidM : id < M.l.length := by rw [hr.heap.len]; exact hid
  have hzs : i2.zero.cells.size = i2.size := Nat.eq_of_beq_eq_true hz
  have hvx := hr.ev hx
  have hag : Agr hp.length M M := ⟨Nat.le_of_eq hr.heap.len.symm, fun _ _ => rfl⟩
  have htup : ∀ (w' : World) (O : Ow), VR w' O M (.tup []) (.tuple #[]) := fun w' O => .tup rfl fun j g v h => by simp at h
  generalize hvv : a.eval x = vx at hvx
  cases hvx with
  | slonil hM =>
    have hob := hr.heap.obj id _ _ ho hM
    obtain ⟨hd, _⟩ := hob
    subst hd
    have hset : hp.set id (.row te i2.size 0 (([] : List D).take (0 * i2.size))) = hp := by
      simp only [List.take_nil]
      apply List.ext_getElem?
      intro j
      by_cases hj : j = id
      · subst hj; rw [List.getElem?_set_self hid, ho]
      · rw [List.getElem?_set_ne (Ne.symm hj)]
    rw [hset]
    exact ⟨.tuple #[], w, M, by simp [execOp, resolve, invoke, builtin, hvv, Builtin.clear_, run_underlying u1], hr.heap, htup _ _, .refl _ _, hag⟩
  | slo hM hn hcm =>
    rename_i b c
    have hob := hr.heap.obj id _ _ ho hM
    obtain ⟨hdl, cs, hbk, hcs, hnc, hcm', hcr⟩ := hob
    have hvl : (Builtin.zeroCells i2.zero.cells n).toList.length = n * i2.size := by rw [Array.length_toList, size_zeroCells, hzs]
    have hmul : (o + n) * i2.size ≤ c * i2.size := Nat.mul_le_mul_right _ hnc
    rw [Nat.add_mul] at hmul
    have hdl' : (ds.take (o * i2.size)).length = o * i2.size := by rw [List.length_take, hdl, Nat.add_mul]; omega
    obtain ⟨w', r1, r2, r3⟩ := write_ok (P := P) (o' := .row te i2.size o (ds.take (o * i2.size))) hr.heap ho rfl hM hbk (off := o * i2.size) (vs := (Builtin.zeroCells i2.zero.cells n).toList) (by rw [hvl, hcs]; omega) (zeroCells_one hz1 n)
      (fun w' hst hh => ⟨hdl', _, hh, by rw [List.size_toArray, setAt_length (by rw [hvl, Array.length_toList, hcs]; omega), Array.length_toList, hcs], by omega, hcm', fun j dd hj => by
        have hlt : j < o * i2.size := by rw [← hdl']; exact (List.getElem?_eq_some_iff.1 hj).1
        rw [List.getElem?_take_of_lt hlt] at hj
        obtain ⟨v, f1, f2⟩ := hcr j dd hj
        refine ⟨v, ?_, f2.step hst⟩
        rw [List.getElem?_toArray, setAt_get (by rw [hvl, Array.length_toList, hcs]; omega), if_neg (by omega)]
        simpa using f1⟩) rfl
    refine ⟨.tuple #[], w', M, ?_, r2, htup _ _, r3, hag⟩
    have hzv : (zeroValue te).run P w = .ok i2.zero w := by simp [zeroValue, typeInfo, e1, e4]
    by_cases hn0 : n = 0
    · subst hn0
      have : w' = w := by
        have e : (Builtin.zeroCells i2.zero.cells 0).toList = [] := List.eq_nil_of_length_eq_zero (by rw [hvl]; simp)
        rw [e] at r1
        simp [storeCells] at r1
        exact r1.symm
      subst this
      simp [execOp, resolve, invoke, builtin, hvv, Builtin.clear_, run_underlying u1]
    · obtain ⟨m, rfl⟩ : ∃ m, n = m + 1 := ⟨n - 1, by omega⟩
      have hco : ¬ c = o := by omega
      simp [execOp, resolve, invoke, builtin, hvv, Builtin.clear_, run_underlying u1, hzv, hco, r1]

theorem ops_clearT (hΓ : TOK P Γ) {t te : TypeId} {i1 i2 : TI} {x : Operand} {id k sz n : Nat} {l r : List α} {a : Int} (hz : subZ l a (l.length : Int) = some r) (h1 : Γ t = some i1) (h1' : i1.desc = .slice te) (h2 : Γ te = some i2) (hzc : Nat.beq i2.zero.cells.size i2.size = true) (hz1 : (i2.zero.cells.toList.all (·.oneCell')) = true)
    (hx : fr.ev x = some (.slo id sz k n)) (hk : k = a.toNat) (hsz : sz = i2.size) (hn : n = r.length) (ho : hp[id]? = some (.row te i2.size l.length (l.flatMap enc))) (henc : ∀ y, (enc y).length = i2.size) :
    OpS P N ⟨none, .call ⟨.builtin .clear, #[x], #[t]⟩, ty, pos, after, gd'⟩ fr hp (.tup []) (hp.set id (.row te i2.size (l.take a.toNat).length ((l.take a.toNat).flatMap enc))) := by
  subst hsz; subst hn; subst hk
  obtain ⟨a', b', ea, eb, e1, e2, rfl⟩ := subZ_ok hz
  subst ea
  obtain rfl : b' = l.length := by omega
  rw [Int.toNat_natCast] at hx ⊢
  have hrl : ((l.take l.length).drop a').length = l.length - a' := by simp
  rw [hrl] at hx
  have := ops_clear (P := P) (N := N) (ty := ty) (pos := pos) (after := after) (gd' := gd') hΓ h1 h1' h2 hzc hz1 hx (by rw [ho]; congr 2; omega)
  rw [flat_take henc, show (l.take a').length = a' by simp; omega]
  exact this
/-- A view of a row from a place on that is told as a number. -/
theorem op_viewI (hΓ : TOK P Γ) {t e : TypeId} {i1 i2 : TI} {x : Operand} {lo : Option Operand} {n id : Nat} {a : Int} {l r : List α} (hz : subZ l a (l.length : Int) = some r) (h1 : Γ t = some i1) (h1' : i1.desc = .slice e) (h2 : Γ e = some i2) (hx : fr.ev x = some (.sl id n)) (hn : n = l.length) (hlo : fr.bound lo 0 = some a) :
    OpP P N ⟨some d, .slice t x lo none none, ty, pos, after, gd'⟩ fr hp (.slo id i2.size a.toNat r.length) := by
  obtain ⟨a', b', ea, eb, e1, e2, e3⟩ := subZ_ok hz
  subst ea
  rw [Int.toNat_natCast]
  exact op_viewZ hΓ hz h1 h1' h2 hx hn hlo
/-- The first part of a row whose end is let go: the slice is longer than what is told of the row. -/
theorem eo_subCut (hΓ : TOK P Γ) {t e : TypeId} {i1 i2 : TI} {x : Operand} {lo hi : Option Operand} {n id : Nat} {l r : List α} {a : Int} (hz : subZ l a (l.length : Int) = some r) (h1 : Γ t = some i1) (h1' : i1.desc = .slice e) (h2 : Γ e = some i2) (hx : fr.ev x = some (.sl id n)) (hn : n = l.length) (hlo : fr.bound lo 0 = some (0 : Int)) (hhi : fr.bound hi n = some a)
    (hd : Nat.blt d N = true) (k : EO P F N ops rest Q ((d, .sl id (l.take a.toNat).length) :: fr) hp) : EO P F N ops (⟨some d, .slice t x lo hi none, ty, pos, after, none⟩ :: rest) Q fr hp := by
  obtain ⟨a', b', ea, eb, e1, e2, rfl⟩ := subZ_ok hz
  subst ea; subst hn
  rw [Int.toNat_natCast, show (l.take a').length = a' by simp; omega] at k
  exact eo_subRow hΓ a' h1 h1' h2 hx hlo hhi (by omega) hd k
/-- A slice's length, told otherwise. -/
theorem eo_relen {l : List Oper} (t : Nat) {id n n' : Nat} (h : fr.get t = some (.sl id n)) (e : n = n') (k : EO P F N ops l Q ((t, .sl id n') :: fr) hp) : EO P F N ops l Q fr hp := by
  subst e
  intro Z w0 O0 M0 w M a hs ha hr
  refine k Z w0 O0 M0 w M a hs ha ⟨hr.heap, fun t' g hg => ?_, hr.size, hr.defers⟩
  rw [Fr.get_cons] at hg
  cases ht : Nat.beq t t' with
  | true =>
    obtain rfl := Nat.eq_of_beq_eq_true ht
    simp at hg
    subst hg
    exact hr.fr t _ h
  | false =>
    simp [ht] at hg
    first
      | exact hr.fr t' g hg
      | (have hne : ¬ t = t' := fun e => by subst e; simp at ht
         simp [hne] at hg
         exact hr.fr t' g hg)
theorem opu_store2 (hΓ : TOK P Γ) {t tb : TypeId} {x y : Operand} {i : TI} {id off : Nat} {gs new : List G} {hp2 : List Ob} (hi : Γ t = some i) (hx : fr.ev x = some (.ptr id off)) (ho : hp[id]? = some (.box tb gs)) (hy : fr.ev y = some g) (hg : cellsG g = some new)
    (h1 : new.all G.one = true) (hsz : Nat.beq new.length i.size = true) (hfit : Nat.ble (off + new.length) gs.length = true) (hhp : hp.set id (.box tb (setAt gs off new)) = hp2) : OpU P N ⟨none, .store t x y, ty, pos, after, gd'⟩ fr hp hp2 := by
  subst hhp
  exact opu_store hΓ hi hx ho hy hg h1 hsz hfit
end
end Go.Gk
namespace Go.Gk
section
variable {P : Program} {Γ : TypeId → Option TI} {F N : Nat} {Q : GPost} {fr fr' : Fr} {hp hp' : List Ob} {ks : List Kt}
variable {α : Type} {enc : α → List D} {ops : Array Oper} {rest : List Oper} {g : G}
variable {d : Tmp} {op : Op} {ty : TypeId} {pos : String} {after : Array Edge} {gd' : Option (Nat × Bool)}
theorem opu_storeRow (hΓ : TOK P Γ) {t tb : TypeId} {x y : Operand} {i : TI} {id off sz n : Nat} {ds nd : List D} {new : List G} (hi : Γ t = some i) (hx : fr.ev x = some (.ptr id off)) (ho : hp[id]? = some (.row tb sz n ds)) (hy : fr.ev y = some g) (hg : cellsG g = some new) (hnd : toDs new = some nd)
    (hsz : Nat.beq new.length i.size = true) (hfit : off + nd.length ≤ ds.length) :
    OpU P N ⟨none, .store t x y, ty, pos, after, gd'⟩ fr hp (hp.set id (.row tb sz n (setAt ds off nd))) := fun Z w M a hr => by
  have hvx := hr.ev hx
  have hnew := toDs_eq hnd
  have h1 : new.all G.one = true := by rw [hnew]; simp [G.one]
  have hvy := cells_ok (hr.ev hy) hg h1
  have hnl : nd.length = new.length := by rw [hnew]; simp
  have hvd : DataR w (ownZ Z hp M) (a.eval y).cells nd := fun j dd hj => by
    obtain ⟨v, e1, e2, e3⟩ := hvy.2 j (.d dd) (by rw [hnew, List.getElem?_map, hj]; rfl)
    cases e3 with
    | d h => exact ⟨v, e1, h⟩
  simp only [execOp]
  generalize a.eval x = vx at hvx
  cases hvx with
  | ptr hM =>
    rename_i b c
    obtain ⟨hdl, cs, hb, hcl, hnc, hcm, hcr⟩ := hr.heap.obj id _ _ ho hM
    have hle : ds.length ≤ cs.size := by rw [hdl, hcl]; exact Nat.mul_le_mul_right _ hnc
    have hvl : (a.eval y).cells.toList.length = nd.length := by simp [hvy.1, hnl]
    obtain ⟨w', r1, r2, r3⟩ := write_ok (P := P) (o' := .row tb sz n (setAt ds off nd)) hr.heap ho rfl hM hb (off := off) (vs := (a.eval y).cells.toList) (by rw [hvl]; omega) (fun v hv => by
        obtain ⟨j, hj⟩ := List.getElem?_of_mem hv
        have hlt : j < new.length := by rw [← hnl, ← hvl]; exact (List.getElem?_eq_some_iff.1 hj).1
        obtain ⟨u, e1, e2, _⟩ := hvy.2 j _ (List.getElem?_eq_getElem hlt)
        have : some v = some u := by rw [← e1, ← hj]; simp
        cases this; exact e2)
      (fun w' hst hh => ⟨by rw [setAt_length hfit]; exact hdl, _, hh, by simp [setAt_length (show off + (a.eval y).cells.toList.length ≤ cs.toList.length by rw [hvl]; simp; omega), hcl], hnc, hcm, DataR.setAt
        (fun j g hj => let ⟨v, e1, e2⟩ := hcr j g hj; ⟨v, e1, e2.step hst⟩) (fun j g hj => let ⟨v, e1, e2⟩ := hvd j g hj; ⟨v, e1, e2.step hst⟩) (by rw [hvy.1, hnl]) hfit hle⟩) rfl
    refine ⟨w', M, ?_, r2, r3, ⟨by rw [hr.heap.len]; exact Nat.le_refl _, fun _ _ => rfl⟩⟩
    have hs := run_size' (P := P) (w := w) hΓ hi
    have : (a.eval y).cells.size = i.size := by rw [hvy.1]; exact Nat.eq_of_beq_eq_true hsz
    simp [Instr.storeAt, Instr.sureAddr, storeVar, hs, this, r1]


/-- An element of a row, set anew. -/
theorem opu_setRowZ (hΓ : TOK P Γ) {t tb : TypeId} {x y : Operand} {i : TI} {id off sz : Nat} {l : List α} {z' : α} {new : List G} {hp2 : List Ob} (j : Nat) (hlt : j < l.length) (hi : Γ t = some i) (hx : fr.ev x = some (.ptr id off)) (hoff : off = j * sz) (ho : hp[id]? = some (.row tb sz l.length (l.flatMap enc)))
    (henc : ∀ y, (enc y).length = sz) (hy : fr.ev y = some g) (hg : cellsG g = some new) (hnd : toDs new = some (enc z'))
    (hsz : Nat.beq new.length i.size = true) (hhp : hp.set id (.row tb sz (l.set j z').length ((l.set j z').flatMap enc)) = hp2) : OpU P N ⟨none, .store t x y, ty, pos, after, gd'⟩ fr hp hp2 := by
  subst hhp
  have hfl := flat_len henc l
  have hle : (j + 1) * sz ≤ l.length * sz := Nat.mul_le_mul_right _ hlt
  rw [Nat.add_mul] at hle
  have he : enc z' = setAt (enc l[j]) 0 (enc z') := by
    unfold setAt
    simp [henc]
  have hset := flat_set henc (List.getElem?_eq_getElem hlt) (fo := 0) (by rw [henc]; omega) he
  have := opu_storeRow (P := P) (N := N) (ty := ty) (pos := pos) (after := after) (gd' := gd') hΓ hi hx ho hy hg hnd hsz (by rw [hfl, henc, hoff]; omega)
  rw [Nat.add_zero, ← hoff] at hset
  rw [hset, List.length_set]
  exact this
/-- A slice's length, told otherwise. -/
theorem j_relen {c : Code} (t : Nat) {id n n' : Nat} (h : fr.get t = some (.sl id n)) (e : n = n') (k : St.holds P F N Q (.code c ks) ((t, .sl id n') :: fr) hp) : St.holds P F N Q (.code c ks) fr hp := by
  subst e
  refine ew_inc (fun t' g hg => ?_) k
  rw [Fr.get_cons] at hg
  by_cases ht : t = t'
  · subst ht
    simp at hg
    subst hg
    exact h
  · simpa [ht] using hg
end
end Go.Gk
namespace Go.Gk
section
variable {P : Program} {Γ : TypeId → Option TI} {F N : Nat} {Q : GPost} {fr fr' : Fr} {hp hp' : List Ob} {ks : List Kt}
variable {α : Type} {enc : α → List D} {ops : Array Oper} {rest : List Oper} {g : G}
variable {d : Tmp} {op : Op} {ty : TypeId} {pos : String} {after : Array Edge} {gd : Option (Nat × Bool)}
/-- An element of a view: a place in the row. -/
theorem op_elemView (hΓ : TOK P Γ) {t e : TypeId} {i1 i2 : TI} {x y : Operand} {id sz o n : Nat} {l : List α} {z : α} {kd : IntKind} {k : Int} (hz : getZ l k = some z) (h1 : Γ t = some i1) (h1' : i1.desc = .slice e) (h2 : Γ e = some i2) (hx : fr.ev x = some (.slo id sz o n)) (hsz : sz = i2.size) (hn : n = l.length)
    (hy : fr.ev y = some (.d (.v (.int kd k)))) : OpP P N ⟨some d, .indexAddr t x y, ty, pos, after, gd⟩ fr hp (.ptr id ((o + k.toNat) * i2.size)) := fun Z w M a hr => by
  obtain ⟨i, rfl, hi, _⟩ := getZ_ok hz
  subst hsz
  obtain ⟨u1, _⟩ := hΓ t _ h1
  rw [h1'] at u1
  have hs := run_size' (P := P) (w := w) hΓ h2
  have hvx := hr.ev hx
  simp only [execOp, hr.ev_v hy]
  generalize a.eval x = vx at hvx
  cases hvx with
  | slonil hM => omega
  | slo hM hnc hm =>
    rename_i b c
    have hco : ¬ c = o := by omega
    rw [Int.toNat_natCast]
    refine ⟨.pointer (some ⟨b, (o + i) * i2.size, none⟩), ?_, .ptr hM⟩
    have : (0 : Int) ≤ (i : Int) ∧ (i : Int) < (n : Int) := by omega
    have hin : i < n := by omega
    simp [Instr.indexAt, asIntOf, run_underlying u1, hs, this, Addr.add_lit, hin, hco, Nat.add_mul]
end
end Go.Gk
