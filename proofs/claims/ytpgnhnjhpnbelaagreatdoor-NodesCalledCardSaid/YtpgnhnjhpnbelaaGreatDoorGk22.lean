/-
  THE GHOST LOGIC, PART 22: calls with their objects told; rows that are lent; rows that become data; append on typed data.
-/
import Derived.Test.YtpgnhnjhpnbelaaGreatDoorGk21
set_option linter.unusedVariables false
set_option linter.unusedSimpArgs false
namespace Go.Gk

def nodupB : List Nat → Bool
  | [] => true
  | x :: r => !(r.any (Nat.beq x)) && nodupB r
theorem nodupB_ok : ∀ {l : List Nat}, nodupB l = true → l.Nodup
  | [], _ => List.nodup_nil
  | x :: r, h => by
    simp only [nodupB, Bool.and_eq_true, Bool.not_eq_true'] at h
    refine List.nodup_cons.2 ⟨fun hm => ?_, nodupB_ok h.2⟩
    have := List.any_eq_false.1 h.1 x hm
    rw [Nat.beq_refl] at this
    exact this rfl
/-- The callee's objects in the caller. -/
def callObs (hp : List Ob) (ρ : List Nat) (hc' : List Ob) : List Ob := upd hp ρ (hc'.map (Ob.ren (rn ρ hp.length))) ++ (hc'.drop ρ.length).map (Ob.ren (rn ρ hp.length))
def callIn (hp : List Ob) (ρ : List Nat) : List (Option Ob) := ρ.map fun r => hp[r]?

section
variable {P : Program} {Γ : TypeId → Option TI} {F N : Nat} {Q : GPost} {fr fr' : Fr} {hp : List Ob} {ks : List Kt}
variable {α : Type} {enc : α → List D} {ops : Array Oper} {rest : List Oper} {g : G}
variable {d : Tmp} {op : Op} {ty : TypeId} {pos : String} {after : Array Edge} {gd : Option (Nat × Bool)}

theorem EC.callF {f : FuncId} {gc gs : List G} {hc hc' : List Ob} {gr g' : G} {hp2 : List Ob} (ρ : List Nat) (hc0 : EC P f gc hc fun g hp' => g = gr ∧ hp' = hc')
    (hl : Nat.beq ρ.length hc.length = true) (hnd : nodupB ρ = true) (hobj : callIn hp ρ = (hc.map (Ob.ren (rn ρ hp.length))).map some) (hb : hc.all (Ob.bel hc.length) = true) (hgb : G.belAll hc.length gc = true)
    (hgs : gc.map (G.ren (rn ρ hp.length)) = gs) (hg' : gr.ren (rn ρ hp.length) = g') (hhp : callObs hp ρ hc' = hp2) : EC P f gs hp fun g hp' => g = g' ∧ hp' = hp2 := by
  have hl' := Nat.eq_of_beq_eq_true hl
  have := EC.frame (hp := hp) hc0 ρ hl' (nodupB_ok hnd) (fun i o r ho hr => by
    have e := congrArg (fun l => l[i]?) hobj
    simp only [callIn, List.getElem?_map, hr, ho, Option.map_some] at e
    exact Option.some.inj e) (HB.mk hb) hgb
  rw [hgs] at this
  refine this.mono ?_
  rintro g hp' ⟨g0, hc1, ⟨rfl, rfl⟩, rfl, _, rfl⟩
  exact ⟨hg', hhp⟩

variable {fop : Operand} {args : Array Operand} {ts : Array TypeId} {f : FuncId} {g1 g2 gs : List G}
/-- A call, its objects told. -/
theorem eo_callF {gc : List G} {hc hc' : List Ob} {gr : G} (ρ : List Nat) (g' : G) (hp2 : List Ob) (hcl : Callable P f) (hc0 : EC P f gc hc fun g hp' => g = gr ∧ hp' = hc') (hd : Nat.blt d N = true) (hF : F ≤ hp.length) (hf : fr.ev fop = some (.fn (.func f) g1 g2)) (ha : args.toList.mapM fr.ev = some gs)
    (hl : Nat.beq ρ.length hc.length = true) (hnd : nodupB ρ = true) (hobj : callIn hp ρ = (hc.map (Ob.ren (rn ρ hp.length))).map some) (hb : hc.all (Ob.bel hc.length) = true) (hgb : G.belAll hc.length gc = true)
    (hgs : gc.map (G.ren (rn ρ hp.length)) = g1 ++ gs ++ g2) (hg' : gr.ren (rn ρ hp.length) = g') (hhp : callObs hp ρ hc' = hp2)
    (k : EO P F N ops rest Q ((d, g') :: fr) hp2) : EO P F N ops (⟨some d, .call ⟨.value fop, args, ts⟩, ty, pos, after, none⟩ :: rest) Q fr hp :=
  eo_call hd hF hf ha hcl (EC.callF ρ hc0 hl hnd hobj hb hgb hgs hg' hhp) (by rintro _ _ ⟨rfl, rfl⟩; exact k)
theorem eo_callF0 {gc : List G} {hc hc' : List Ob} {gr : G} (ρ : List Nat) (g' : G) (hp2 : List Ob) (hcl : Callable P f) (hc0 : EC P f gc hc fun g hp' => g = gr ∧ hp' = hc') (hF : F ≤ hp.length) (hf : fr.ev fop = some (.fn (.func f) g1 g2)) (ha : args.toList.mapM fr.ev = some gs)
    (hl : Nat.beq ρ.length hc.length = true) (hnd : nodupB ρ = true) (hobj : callIn hp ρ = (hc.map (Ob.ren (rn ρ hp.length))).map some) (hb : hc.all (Ob.bel hc.length) = true) (hgb : G.belAll hc.length gc = true)
    (hgs : gc.map (G.ren (rn ρ hp.length)) = g1 ++ gs ++ g2) (hg' : gr.ren (rn ρ hp.length) = g') (hhp : callObs hp ρ hc' = hp2)
    (k : EO P F N ops rest Q fr hp2) : EO P F N ops (⟨none, .call ⟨.value fop, args, ts⟩, ty, pos, after, none⟩ :: rest) Q fr hp :=
  eo_call0 hF hf ha hcl (EC.callF ρ hc0 hl hnd hobj hb hgb hgs hg' hhp) (by rintro _ _ ⟨rfl, rfl⟩; exact k)
/-- A call that only computes. -/
theorem eo_callP {r : G} (hcl : Callable P f) (hc : Pure P f gs r) (hd : Nat.blt d N = true) (hF : F ≤ hp.length) (hf : fr.ev fop = some (.fn (.func f) g1 g2)) {gs' : List G} (ha : args.toList.mapM fr.ev = some gs') (hgs : gs = g1 ++ gs' ++ g2) (hb : G.belAll 0 gs = true) (hb' : r.bel 0 = true)
    (h : EO P F N ops rest Q ((d, r) :: fr) hp) : EO P F N ops (⟨some d, .call ⟨.value fop, args, ts⟩, ty, pos, after, none⟩ :: rest) Q fr hp := by
  subst hgs
  exact eo_pure hd hF hf ha hcl hc hb hb' h
theorem gl_callP {r : G} {QF : Fr → Prop} {gs' : List G} (hcl : Callable P f) (hc : Pure P f gs r) (hd : Nat.blt d N = true) (hf : (fr.only (Oper.looksAt ops ⟨some d, .call ⟨.value fop, args, ts⟩, ty, pos, after, none⟩)).ev fop = some (.fn (.func f) g1 g2))
    (ha : args.toList.mapM (fr.only (Oper.looksAt ops ⟨some d, .call ⟨.value fop, args, ts⟩, ty, pos, after, none⟩)).ev = some gs') (hgs : gs = g1 ++ gs' ++ g2) (hb : G.belAll 0 gs = true) (hb' : r.bel 0 = true)
    (k : GL P N hp ops QF rest ((d, r) :: fr)) : GL P N hp ops QF (⟨some d, .call ⟨.value fop, args, ts⟩, ty, pos, after, none⟩ :: rest) fr := by
  subst hgs
  exact gl_pure hd hf ha hcl hc hb hb' k
theorem gl_callPg {r : G} {QF : Fr → Prop} {gs' : List G} {j : Nat} {want : Bool} (hcl : Callable P f) (hc : Pure P f gs r) (hg : fr.guard ops j want = some true) (hd : Nat.blt d N = true) (hf : (fr.only (Oper.looksAt ops ⟨some d, .call ⟨.value fop, args, ts⟩, ty, pos, after, some (j, want)⟩)).ev fop = some (.fn (.func f) g1 g2))
    (ha : args.toList.mapM (fr.only (Oper.looksAt ops ⟨some d, .call ⟨.value fop, args, ts⟩, ty, pos, after, some (j, want)⟩)).ev = some gs') (hgs : gs = g1 ++ gs' ++ g2) (hb : G.belAll 0 gs = true) (hb' : r.bel 0 = true)
    (k : GL P N hp ops QF rest ((d, r) :: fr)) : GL P N hp ops QF (⟨some d, .call ⟨.value fop, args, ts⟩, ty, pos, after, some (j, want)⟩ :: rest) fr := by
  subst hgs
  exact gl_pureg hg hd hf ha hcl hc hb hb' k

/-! ### Rows that are lent -/
mutual
def G.plain : G → Bool
  | .d (.v _) => true
  | .agg gs | .tup gs => G.plainAll gs
  | _ => false
def G.plainAll : List G → Bool
  | [] => true
  | g :: r => G.plain g && G.plainAll r
end
theorem G.plainAll_spec : ∀ {gs : List G}, G.plainAll gs = true → ∀ (j : Nat) (g : G), gs[j]? = some g → g.plain = true
  | [], _, j, g, h => by simp at h
  | g0 :: r, hp, 0, g, h => by simp [G.plainAll] at hp; simp at h; exact h ▸ hp.1
  | g0 :: r, hp, j + 1, g, h => by simp [G.plainAll] at hp; exact G.plainAll_spec hp.2 j g (by simpa using h)
theorem VR.plain {w w' : World} {O O' : Nat → Prop} {M M' : Mp} {g : G} {v : Value} (h : VR w O M g v) (hp : g.plain = true) : VR w' O' M' g v := by
  induction h with
  | d hd => cases hd with
    | v _ h => exact .d (.v _ h)
    | nil => simp [G.plain] at hp
    | ro => simp [G.plain] at hp
  | agg hl _ ih => exact .agg hl fun j g v hg hv => ih j g v hg hv (G.plainAll_spec hp j g hg)
  | tup hl _ ih => exact .tup hl fun j g v hg hv => ih j g v hg hv (G.plainAll_spec hp j g hg)
  | _ => simp [G.plain] at hp
def G.lend (hp : List Ob) : G → G
  | .sl id n => match hp[id]? with
    | some (.row _ _ _ ds) => .d (.ro n ds)
    | _ => .sl id n
  | g => g
/-- The blocks of the rows that are lent. -/
def lentB (hp : List Ob) (M : Mp) (gs : List G) (b : Nat) : Prop := ∃ (j id n : Nat) (c : Nat), gs[j]? = some (.sl id n) ∧ M[id]? = some (some (b, c))

theorem EC.lend {gs : List G} {r : G} (h : Pure P f (gs.map (G.lend hp)) r) (hbl : G.belAll 0 (gs.map (G.lend hp)) = true) (hr : r.plain = true) : EC P f gs hp fun g hp' => g = r ∧ hp' = hp := by
  intro Z w M vs hrel hsz hvs
  let Z0 : Env := ⟨fun b => (own hp M b ∨ Z.z b) ∧ ¬ ((lentB hp M gs b) ∧ own hp M b), fun b => ownZ Z hp M b ∧ ¬ ((lentB hp M gs b) ∧ own hp M b), fun b h => ⟨h.1.imp id (Z.hv b), h.2⟩, fun w' => Z.x w', fun w1 w2 hk hx => Z.st w1 w2 (fun b hb => hk b ⟨.inr hb, fun ⟨_, h⟩ => hrel.apart b h hb⟩) hx, Z.ax⟩
  have hO0 : ∀ b, ownZ Z0 [] [] b → ownZ Z hp M b := fun b hb => by
    rcases hb with ⟨i, o, c, h1, _⟩ | hb
    · simp at h1
    · exact hb.1
  have h0 : RelH Z0 [] [] w := ⟨rfl, fun i o m h => by simp at h, fun b ⟨i, o, c, h, _⟩ => by simp at h, fun b hb => by
    rcases hb.1 with h | h
    · exact hrel.block_lt h
    · exact hrel.old b h, hrel.amb, fun i j oi oj b c c' h => by simp at h⟩
  have hst : Stp w (ownZ Z hp M) w (ownZ Z0 [] []) := ⟨Nat.le_refl _, fun _ _ _ => rfl, fun b _ hb => hO0 b hb, rfl, rfl, rfl⟩
  have key : ∀ (j : Nat) (g : G) (v : Value), gs[j]? = some g → vs[j]? = some v → (g.lend hp).bel 0 = true → VR w (ownZ Z0 [] []) [] (g.lend hp) v := fun j g v hg hv hb => by
    have h1 := hvs j g v hg hv
    by_cases hsl : ∃ id n, g = .sl id n ∧ ∃ t sz m ds, hp[id]? = some (.row t sz m ds)
    · obtain ⟨id, n, rfl, t, sz, m, ds, ho⟩ := hsl
      have e : (G.sl id n).lend hp = .d (.ro n ds) := by simp [G.lend, ho]
      rw [e]
      cases h1 with
      | slnil hM =>
        have := hrel.obj id _ _ ho hM
        obtain ⟨rfl, _⟩ := this
        exact .d .nil
      | sl hM hn hm =>
        rename_i b c
        obtain ⟨_, cs, hblk, hcs, hnc, hcm, hdata⟩ := hrel.obj id _ _ ho hM
        have hown : own hp M b := ⟨id, _, c, ho, rfl, hM⟩
        have hcell : ∀ j d, ds[j]? = some d → w.cell? ⟨b, 0 + j, none⟩ = some (cs.getD j undef) := fun j d hd => by
          obtain ⟨u, e1, _⟩ := hdata j d hd
          rw [Nat.zero_add, cell_of_row w b j cs _ _ hblk]
          simp [e1]
        refine .d (.ro n ds b 0 c (fun j => cs.getD j undef) (hrel.block_lt hown) ?_ hn hm hcell (fun j d hd => ?_))
        · rintro (⟨i, o, c, h1, _⟩ | hb)
          · simp at h1
          · exact hb.2 ⟨⟨j, id, n, c, hg, hM⟩, hown⟩
        · obtain ⟨u, e1, e2⟩ := hdata j d hd
          simpa [e1] using e2.step hst
    · have e : g.lend hp = g := by
        cases g <;> try rfl
        rename_i id n
        simp only [G.lend]
        split
        · rename_i t sz m ds ho
          exact absurd ⟨id, n, rfl, t, sz, m, ds, ho⟩ hsl
        · rfl
      rw [e] at hb ⊢
      exact h1.move (k := 0) hst (fun i hi => by omega) hb
  -- the names
  refine (h Z0 w [] vs h0 (by simpa using hsz) (fun j g v hg hv => ?_)).mono ?_
  · rw [List.getElem?_map] at hg
    obtain ⟨g0, hg0, rfl⟩ := Option.map_eq_some_iff.1 hg
    exact key j g0 v hg0 hv (G.belAll_spec.1 hbl j _ (by rw [List.getElem?_map, hg0]; rfl))
  · rintro e w' ⟨v, g, hp', M', rfl, ⟨rfl, rfl⟩, h1, h2, h3, h4⟩
    have hkeep : ∀ b, b < w.heap.size → w'.heap[b]? = w.heap[b]? := fun b hb => h3.keep b hb fun ⟨i, o, c, h, _⟩ => by simp at h
    have hs : Stp w (own hp M) w' (own hp M) := ⟨h3.size, fun b hb _ => hkeep b hb, fun _ _ h => h, h3.os, h3.tape, h3.output⟩
    refine ⟨v, g, hp, M, rfl, ⟨rfl, rfl⟩, ⟨hrel.len, fun i o m ho hm => ?_, hrel.apart, fun b hb => Nat.lt_of_lt_of_le (hrel.old b hb) h3.size, hrel.amb_stp hs, hrel.inj⟩, h2.plain hr, hs, ⟨Nat.le_of_eq hrel.len.symm, fun _ _ => rfl⟩⟩
    have := hrel.obj i o m ho hm
    refine this.move (k := M.length) (stp_z Z hs) (fun _ _ => rfl) this.bel fun b c e hl => ?_
    subst e
    exact hkeep b (hrel.block_lt ⟨i, o, c, ho, hl, hm⟩)

/-- A call that only computes; it is lent rows. -/
theorem eo_callL {gs0 : List G} {r : G} (hcl : Callable P f) (hc : Pure P f gs0 r) (hd : Nat.blt d N = true) (hF : F ≤ hp.length) (hf : fr.ev fop = some (.fn (.func f) g1 g2)) {gs' : List G} (ha : args.toList.mapM fr.ev = some gs') (hgs : (g1 ++ gs' ++ g2).map (G.lend hp) = gs0) (hb : G.belAll 0 gs0 = true) (hr : r.plain = true)
    (h : EO P F N ops rest Q ((d, r) :: fr) hp) : EO P F N ops (⟨some d, .call ⟨.value fop, args, ts⟩, ty, pos, after, none⟩ :: rest) Q fr hp := by
  subst hgs
  exact eo_call hd hF hf ha hcl (EC.lend hc hb hr) (by rintro _ _ ⟨rfl, rfl⟩; exact h)

/-! ### Rows that become data -/
mutual
def G.shr (id : Nat) (ds : List D) : G → G
  | .sl i n => bif Nat.beq i id then .d (.ro n ds) else .sl i n
  | .agg gs => .agg (G.shrAll id ds gs)
  | .tup gs => .tup (G.shrAll id ds gs)
  | g => g
def G.shrAll (id : Nat) (ds : List D) : List G → List G
  | [] => []
  | g :: r => G.shr id ds g :: G.shrAll id ds r
end
theorem G.shrAll_get {id : Nat} {ds : List D} : ∀ {gs : List G} {j : Nat} {g : G}, (G.shrAll id ds gs)[j]? = some g → ∃ g0, gs[j]? = some g0 ∧ g = g0.shr id ds
  | [], j, g, h => by simp [G.shrAll] at h
  | g0 :: r, 0, g, h => by simp [G.shrAll] at h; exact ⟨g0, rfl, h.symm⟩
  | g0 :: r, j + 1, g, h => by simp [G.shrAll] at h; exact G.shrAll_get (gs := r) h
theorem G.shrAll_length {id : Nat} {ds : List D} : ∀ {gs : List G}, (G.shrAll id ds gs).length = gs.length
  | [] => rfl
  | g :: r => by simp [G.shrAll, G.shrAll_length (gs := r)]
theorem VR.shr {Z : Env} {w : World} {M : Mp} {id te sz m : Nat} {ds : List D} {O' : Nat → Prop} (hr : RelH Z hp M w) (ho : hp[id]? = some (.row te sz m ds)) (hO : ∀ b, O' b → ownZ Z hp M b) (hid : ∀ b c, M[id]? = some (some (b, c)) → ¬ O' b) {g : G} {v : Value} (h : VR w (ownZ Z hp M) M g v) : VR w O' M (g.shr id ds) v := by
  have hst : Stp w (ownZ Z hp M) w O' := ⟨Nat.le_refl _, fun _ _ _ => rfl, fun b _ hb => hO b hb, rfl, rfl, rfl⟩
  have st : ∀ {g v}, VR w (ownZ Z hp M) M g v → VR w O' M g v := fun h => h.step hst (fun _ _ => rfl)
  induction h with
  | sl hM hn hm =>
    rename_i i n b c
    simp only [G.shr]
    cases hb : Nat.beq i id with
    | false => exact .sl hM hn hm
    | true =>
      have := Nat.eq_of_beq_eq_true hb
      subst this
      obtain ⟨_, cs, hblk, hcs, hnc, hcm, hdata⟩ := hr.obj _ _ _ ho hM
      refine .d (.ro n ds b 0 c (fun j => cs.getD j undef) (hr.block_lt ⟨i, _, c, ho, rfl, hM⟩) (hid b c hM) hn hm (fun j d hd => ?_) (fun j d hd => ?_))
      · obtain ⟨u, e1, _⟩ := hdata j d hd
        rw [Nat.zero_add, cell_of_row w b j cs _ _ hblk]
        simp [e1]
      · obtain ⟨u, e1, e2⟩ := hdata j d hd
        simpa [e1] using e2.step hst
  | slnil hM =>
    rename_i i
    simp only [G.shr]
    cases hb : Nat.beq i id with
    | false => exact .slnil hM
    | true =>
      have := Nat.eq_of_beq_eq_true hb
      subst this
      obtain ⟨rfl, _⟩ := hr.obj _ _ _ ho hM
      exact .d .nil
  | agg hl _ ih =>
    refine .agg (by rw [G.shrAll_length]; exact hl) fun j g v hg hv => ?_
    obtain ⟨g0, hg0, rfl⟩ := G.shrAll_get hg
    exact ih j g0 v hg0 hv
  | tup hl _ ih =>
    refine .tup (by rw [G.shrAll_length]; exact hl) fun j g v hg hv => ?_
    obtain ⟨g0, hg0, rfl⟩ := G.shrAll_get hg
    exact ih j g0 v hg0 hv
  | slo h hn hm => exact .slo h hn hm
  | slonil h => exact .slonil h
  | d h => exact .d (h.step hst)
  | ptr h => exact .ptr h
  | rp vs hb hO' hc hv => exact st (.rp vs hb hO' hc hv)
  | map h => exact .map h
  | fn l1 l2 h1 h2 _ _ => exact st (.fn l1 l2 h1 h2)
  | junk v => exact .junk v

/-- A row is let go: from now on it is data. The slots t are told so. -/
def Fr.shrAt (id : Nat) (ds : List D) (fr : Fr) : List Nat → Fr
  | [] => fr
  | t :: r => match fr.get t with
    | some g => (t, g.shr id ds) :: Fr.shrAt id ds fr r
    | none => Fr.shrAt id ds fr r
def Ob.shr (id : Nat) (ds : List D) : Ob → Ob
  | .box t gs => .box t (G.shrAll id ds gs)
  | o => o
theorem shrAt_get {id : Nat} {ds : List D} : ∀ {L : List Nat} {t : Nat} {g : G}, (Fr.shrAt id ds fr L).get t = some g → (∃ g0, fr.get t = some g0 ∧ g = g0.shr id ds) ∨ fr.get t = some g
  | [], t, g, h => .inr h
  | t0 :: L, t, g, h => by
    simp only [Fr.shrAt] at h
    split at h
    · rename_i g0 hg0
      simp only [Fr.get] at h
      cases hk : Nat.beq t0 t with
      | true =>
        have := Nat.eq_of_beq_eq_true hk
        subst this
        rw [hk] at h
        cases h
        exact .inl ⟨g0, hg0, rfl⟩
      | false => rw [hk] at h; exact shrAt_get h
    · exact shrAt_get h

theorem gh_shr {te sz m : Nat} {ds : List D} (id : Nat) (L : List Nat) (ho : hp[id]? = some (.row te sz m ds)) : ∀ Z w M a, Rel Z hp M w fr a N →
    ∃ M', Rel Z ((hp.map (Ob.shr id ds)).set id .dead) M' w (Fr.shrAt id ds fr L) a N ∧ Stp w (own hp M) w (own ((hp.map (Ob.shr id ds)).set id .dead) M') ∧ Agr hp.length M M' := by
  intro Z w M a hr
  have hid : id < hp.length := (List.getElem?_eq_some_iff.1 ho).1
  have lv : ∀ o : Ob, (o.shr id ds).live = o.live := fun o => by cases o <;> rfl
  have hold : ∀ i o, ((hp.map (Ob.shr id ds)).set id .dead)[i]? = some o → o.live = true → i ≠ id ∧ ∃ o0, hp[i]? = some o0 ∧ o = o0.shr id ds ∧ o0.live = true := fun i o h1 h2 => by
    by_cases hi : i = id
    · subst hi; simp [hid] at h1; subst h1; cases h2
    · rw [List.getElem?_set_ne (Ne.symm hi), List.getElem?_map] at h1
      obtain ⟨o0, h3, rfl⟩ := Option.map_eq_some_iff.1 h1
      exact ⟨hi, o0, h3, rfl, by rw [← lv]; exact h2⟩
  have hown : ∀ b, own ((hp.map (Ob.shr id ds)).set id .dead) M b → own hp M b := by
    rintro b ⟨i, o, c, h1, h2, h3⟩
    obtain ⟨_, o0, e1, _, e2⟩ := hold i o h1 h2
    exact ⟨i, o0, c, e1, e2, h3⟩
  have hst : Stp w (own hp M) w (own ((hp.map (Ob.shr id ds)).set id .dead) M) := ⟨Nat.le_refl _, fun _ _ _ => rfl, fun b _ h => hown b h, rfl, rfl, rfl⟩
  have hO : ∀ b, ownZ Z ((hp.map (Ob.shr id ds)).set id .dead) M b → ownZ Z hp M b := fun b hb => hb.imp (hown b) fun h => h
  have hid' : ∀ b c, M[id]? = some (some (b, c)) → ¬ ownZ Z ((hp.map (Ob.shr id ds)).set id .dead) M b := by
    rintro b c hM (⟨i, o, c', h1, h2, h3⟩ | hz)
    · obtain ⟨hne, o0, e1, _, e2⟩ := hold i o h1 h2
      exact hne (hr.heap.inj i id o0 _ b c' c e1 ho e2 rfl h3 hM)
    · exact hr.heap.apart b ⟨id, _, c, ho, rfl, hM⟩ (Z.hv b hz)
  have vs : ∀ {g v}, VR w (ownZ Z hp M) M g v → VR w (ownZ Z ((hp.map (Ob.shr id ds)).set id .dead) M) M (g.shr id ds) v := fun h => h.shr hr.heap ho hO hid'
  have vk : ∀ {g v}, VR w (ownZ Z hp M) M g v → VR w (ownZ Z ((hp.map (Ob.shr id ds)).set id .dead) M) M g v := fun h => h.step (stp_z Z hst) (fun _ _ => rfl)
  refine ⟨M, ⟨⟨by simp [hr.heap.len], fun i o m h1 h2 => ?_, fun b hb hz => hr.heap.apart b (hown b hb) hz, hr.heap.old, hr.heap.amb, fun i j oi oj b c c' hi hj li lj mi mj => ?_⟩, fun t' g h => ?_, hr.size, hr.defers⟩, hst, ⟨Nat.le_of_eq hr.heap.len.symm, fun _ _ => rfl⟩⟩
  · by_cases hi : i = id
    · subst hi; simp [hid] at h1; subst h1; cases m <;> trivial
    · rw [List.getElem?_set_ne (Ne.symm hi), List.getElem?_map] at h1
      obtain ⟨o0, h3, rfl⟩ := Option.map_eq_some_iff.1 h1
      have hob := hr.heap.obj i o0 m h3 h2
      cases o0 with
      | box tb gs =>
        match m, hob with
        | some (b, c), ⟨cs, e1, e2, hc⟩ =>
          refine ⟨cs, e1, by rw [G.shrAll_length]; exact e2, fun j g hg => ?_⟩
          obtain ⟨g0, hg0, rfl⟩ := G.shrAll_get hg
          obtain ⟨v, f1, f2, f3⟩ := hc j g0 hg0
          exact ⟨v, f1, f2, vs f3⟩
      | _ => exact hob.move (k := M.length) (stp_z Z hst) (fun _ _ => rfl) hob.bel fun _ _ _ _ => rfl
  · obtain ⟨_, o1, e1, _, e2⟩ := hold i oi hi li
    obtain ⟨_, o2, e3, _, e4⟩ := hold j oj hj lj
    exact hr.heap.inj i j o1 o2 b c c' e1 e3 e2 e4 mi mj
  · rcases shrAt_get h with ⟨g0, h0, rfl⟩ | h0
    · obtain ⟨v, e1, e2⟩ := hr.fr t' g0 h0
      exact ⟨v, e1, vs e2⟩
    · obtain ⟨v, e1, e2⟩ := hr.fr t' g h0
      exact ⟨v, e1, vk e2⟩
/-- A row becomes data, in the slots L and in all boxes. -/
theorem eo_shr {l : List Oper} {te sz m : Nat} {ds : List D} (id : Nat) (L : List Nat) (fr2 : Fr) (hp2 : List Ob) (ho : hp[id]? = some (.row te sz m ds)) (hfr : Fr.shrAt id ds fr L = fr2) (hhp : (hp.map (Ob.shr id ds)).set id .dead = hp2) (hF : F ≤ hp.length)
    (k : EO P F N ops l Q fr2 hp2) : EO P F N ops l Q fr hp := by
  subst hfr; subst hhp
  exact eo_ghost hF (gh_shr id L ho) k
theorem ew_ghost {c : Code} {fr' : Fr} {hp' : List Ob} (hF : F ≤ hp.length) (h : ∀ Z w M a, Rel Z hp M w fr a N → ∃ M', Rel Z hp' M' w fr' a N ∧ Stp w (own hp M) w (own hp' M') ∧ Agr hp.length M M') (k : EW P F N c Q fr' hp') :
    EW P F N c Q fr hp := by
  intro Z w0 O0 M0 w M a hs ha hr
  obtain ⟨M', h1, h2, h3⟩ := h Z w M a hr
  exact k Z w0 O0 M0 w M' a (hs.trans h2) (ha.trans h3 hF) h1
theorem j_shr {c : Code} {te sz m : Nat} {ds : List D} (id : Nat) (L : List Nat) (fr2 : Fr) (hp2 : List Ob) (ho : hp[id]? = some (.row te sz m ds)) (hfr : Fr.shrAt id ds fr L = fr2) (hhp : (hp.map (Ob.shr id ds)).set id .dead = hp2) (hF : F ≤ hp.length)
    (k : St.holds P F N Q (.code c ks) fr2 hp2) : St.holds P F N Q (.code c ks) fr hp := by
  subst hfr; subst hhp
  exact ew_ghost (Q := stk P F N Q ks) hF (gh_shr id L ho) k

/-! ### A name that is left in a box -/
def Ob.clean (k : Nat) : Ob → Ob
  | .box t gs => .box t (gs.map fun g => bif g.has k then .junk else g)
  | o => o
theorem gh_clean (id : Nat) : ∀ Z w M a, Rel Z hp M w fr a N → ∃ M', Rel Z (hp.map (Ob.clean id)) M' w fr a N ∧ Stp w (own hp M) w (own (hp.map (Ob.clean id)) M') ∧ Agr hp.length M M' := by
  intro Z w M a hr
  have lv : ∀ o : Ob, (o.clean id).live = o.live := fun o => by cases o <;> rfl
  have hold : ∀ (i : Nat) (o : Ob), (hp.map (Ob.clean id))[i]? = some o → ∃ o0 : Ob, hp[i]? = some o0 ∧ o = o0.clean id := fun i o h1 => by
    rw [List.getElem?_map] at h1
    obtain ⟨o0, h3, rfl⟩ := Option.map_eq_some_iff.1 h1
    exact ⟨o0, h3, rfl⟩
  have hown : ∀ b, own (hp.map (Ob.clean id)) M b ↔ own hp M b := fun b => by
    constructor
    · rintro ⟨i, o, c, h1, h2, h3⟩
      obtain ⟨o0, e1, rfl⟩ := hold i o h1
      exact ⟨i, o0, c, e1, by rw [← lv]; exact h2, h3⟩
    · rintro ⟨i, o, c, h1, h2, h3⟩
      exact ⟨i, o.clean id, c, by rw [List.getElem?_map, h1]; rfl, by rw [lv]; exact h2, h3⟩
  have hO : own (hp.map (Ob.clean id)) M = own hp M := by funext b; exact propext (hown b)
  have hOZ : ownZ Z (hp.map (Ob.clean id)) M = ownZ Z hp M := by unfold ownZ; rw [hO]
  refine ⟨M, ⟨⟨by simp [hr.heap.len], fun i o m h1 h2 => ?_, fun b hb => hr.heap.apart b (by rw [hO] at hb; exact hb), hr.heap.old, hr.heap.amb, fun i j oi oj b c c' hi hj li lj mi mj => ?_⟩, fun t g h => by rw [hOZ]; exact hr.fr t g h, hr.size, hr.defers⟩, by rw [hO]; exact Stp.refl _ _, ⟨Nat.le_of_eq hr.heap.len.symm, fun _ _ => rfl⟩⟩
  · obtain ⟨o0, e1, rfl⟩ := hold i o h1
    have hob := hr.heap.obj i o0 m e1 h2
    rw [hOZ]
    cases o0 with
    | box tb gs =>
      match m, hob with
      | some (b, c), ⟨cs, f1, f2, hc⟩ =>
        refine ⟨cs, f1, by simpa using f2, fun j g hg => ?_⟩
        rw [List.getElem?_map] at hg
        obtain ⟨g0, hg0, rfl⟩ := Option.map_eq_some_iff.1 hg
        obtain ⟨v, k1, k2, k3⟩ := hc j g0 hg0
        refine ⟨v, k1, k2, ?_⟩
        cases g0.has id with
        | true => exact .junk v
        | false => exact k3
    | _ => exact hob
  · obtain ⟨o1, e1, rfl⟩ := hold i oi hi
    obtain ⟨o2, e2, rfl⟩ := hold j oj hj
    exact hr.heap.inj i j o1 o2 b c c' e1 e2 (by rw [← lv]; exact li) (by rw [← lv]; exact lj) mi mj
theorem eo_clean {l : List Oper} (id : Nat) (hp2 : List Ob) (hhp : hp.map (Ob.clean id) = hp2) (hF : F ≤ hp.length) (k : EO P F N ops l Q fr hp2) : EO P F N ops l Q fr hp := by
  subst hhp
  exact eo_ghost hF (gh_clean id) k
/-- The objects, told otherwise. -/
theorem eo_hp {l : List Oper} (hp2 : List Ob) (h : hp = hp2) (k : EO P F N ops l Q fr hp2) : EO P F N ops l Q fr hp := by subst h; exact k

/-- APPEND on typed data. -/
theorem eo_appendT (hΓ : TOK P Γ) {t te : TypeId} {i1 i2 : TI} {x y : Operand} {id n : Nat} {l m r : List α} (hz : apd l m = some r) (h1 : Γ t = some i1) (h1' : i1.desc = .slice te) (h2 : Γ te = some i2) (hzc : Nat.beq i2.zero.cells.size i2.size = true) (hz0 : Nat.blt 0 i2.size = true)
    (hx : fr.ev x = some (.sl id n)) (hn : n = l.length) (ho : hp[id]? = some (.row te i2.size l.length (l.flatMap enc))) (hy : fr.ev y = some (.d (Sl enc m))) (henc : ∀ y, (enc y).length = i2.size) (hbytes : Nat.ble (4294967296 * i2.bytes) 140737488355328 = true)
    (hno : (hp.all fun o => !o.has id) = true) (hd : Nat.blt d N = true) (hFid : Nat.ble F id = true)
    (k : EO P F N ops rest Q ((d, .sl id r.length) :: fr.clean id) (hp.set id (.row te i2.size r.length (r.flatMap enc)))) :
    EO P F N ops (⟨some d, .call ⟨.builtin .append, #[x, y], #[t, t]⟩, ty, pos, after, none⟩ :: rest) Q fr hp := by
  obtain ⟨rfl, hle⟩ := apd_ok hz
  subst hn
  have hb := Nat.le_of_ble_eq_true hbytes
  have hmul : (l.length + m.length) * i2.bytes ≤ 4294967296 * i2.bytes := Nat.mul_le_mul_right _ hle
  refine eo_append hΓ h1 h1' h2 hzc hz0 hx ho hy (flat_len henc m) (by omega) (by simp only [maxLen]; omega) hno hd hFid ?_
  rw [List.length_append, List.flatMap_append] at k
  exact k

/-! ### Small things -/
def catZ (l m : Str) : Option Str := bif Nat.ble (l.length + m.length) 9223372036854775807 then some (l ++ m) else none
theorem catZ_ok {l m r : Str} (h : catZ l m = some r) : r = l ++ m ∧ l.length + m.length ≤ 9223372036854775807 := by
  unfold catZ at h
  cases hc : Nat.ble (l.length + m.length) 9223372036854775807 with
  | false => rw [hc] at h; cases h
  | true => rw [hc] at h; cases h; exact ⟨rfl, Nat.le_of_ble_eq_true hc⟩
theorem op_catZ {t t' : TypeId} {x y : Operand} {l m r : List UInt8} (hz : catZ l m = some r) (hx : fr.ev x = some (S l)) (hy : fr.ev y = some (S m)) : OpP P N ⟨some d, .binOp .add t x y t', ty, pos, after, gd⟩ fr hp (S r) := by
  obtain ⟨rfl, hn⟩ := catZ_ok hz
  intro Z w M a hr
  refine ⟨_, ?_, .d (.v _ rfl)⟩
  have e1 : ((⟨l.toArray⟩ : ByteArray).size : Nat) = l.length := by show l.toArray.size = _; simp
  have e2 : ((⟨m.toArray⟩ : ByteArray).size : Nat) = m.length := by show m.toArray.size = _; simp
  have hn' : ¬ (((⟨l.toArray⟩ : ByteArray).size + (⟨m.toArray⟩ : ByteArray).size : Nat) : Int) > IntKind.i64.max := by
    rw [e1, e2]
    have : IntKind.i64.max = 9223372036854775807 := by decide
    rw [this]; omega
  have e3 : (⟨l.toArray⟩ : ByteArray) ++ (⟨m.toArray⟩ : ByteArray) = ⟨(l ++ m).toArray⟩ := by
    apply ByteArray.ext
    simp [ByteArray.data_append]
  simp only [execOp, hr.ev_v hx, hr.ev_v hy, eqGuard, binOp, Op.stringOp]
  rw [if_neg hn', e3]
  rfl
def divZ (k : IntKind) (a b : Int) : Option Int := bif decide (b = 0) then none else some (k.wrap (a.tdiv b))
def remZ (a b : Int) : Option Int := bif decide (b = 0) then none else some (a.tmod b)
theorem op_quoZ {t t' : TypeId} {x y : Operand} {k : IntKind} {m n r : Int} (hz : divZ k m n = some r) (hx : fr.ev x = some (.d (.v (.int k m)))) (hy : fr.ev y = some (.d (.v (.int k n)))) : OpP P N ⟨some d, .binOp .quo t x y t', ty, pos, after, gd⟩ fr hp (.d (.v (.int k r))) := by
  unfold divZ at hz
  by_cases h0 : n = 0
  · simp [h0] at hz
  · simp [h0] at hz; subst hz; exact op_quo hx hy h0
theorem op_remZ {t t' : TypeId} {x y : Operand} {k : IntKind} {m n r : Int} (hz : remZ m n = some r) (hx : fr.ev x = some (.d (.v (.int k m)))) (hy : fr.ev y = some (.d (.v (.int k n)))) : OpP P N ⟨some d, .binOp .rem t x y t', ty, pos, after, gd⟩ fr hp (.d (.v (.int k r))) := by
  unfold remZ at hz
  by_cases h0 : n = 0
  · simp [h0] at hz
  · simp [h0] at hz; subst hz; exact op_rem hx hy h0
/-- The end of a function: what it hands back. -/
theorem fin_pure (hΓ : TOK P Γ) {fn : Func} {gs : List G} {g : G} {e : Exit} (he : e = .normal ∨ e = .ret) (h : resAll Γ fr hp fn.results.toList = some gs) (hg : retG gs = g) : (e = .normal ∨ e = .ret) ∧ Res P fn fr hp g := ⟨he, res_all hΓ h hg.symm⟩
theorem fin_objs (hΓ : TOK P Γ) {fn : Func} {gs : List G} {g : G} {e : Exit} {n0 : Nat} {hp2 : List Ob} (ex : List Ob) (he : e = .normal ∨ e = .ret) (h : resAll Γ fr hp fn.results.toList = some gs) (hg : retG gs = g) (hhp : hp = hp2 ++ ex) (hn : Nat.ble n0 hp2.length = true) (hb : ex = [] ∨ HB hp2.length hp2 ∧ g.bel hp2.length = true) :
    Ret P fn n0 (fun g' hp' => g' = g ∧ hp' = hp2) e fr hp :=
  ⟨he, hp2, ex, g, hhp, ⟨rfl, rfl⟩, Nat.le_of_ble_eq_true hn, hb, res_all hΓ h hg.symm⟩
end
end Go.Gk
