/-
  THE GHOST LOGIC, PART 4: calls: a contract speaks of the objects that the callee is handed, and of no others.
-/
import Derived.Test.YtpgnhnjhpnbelaaGreatDoorGk3
set_option linter.unusedVariables false
set_option linter.unusedSimpArgs false
namespace Go.Gk

mutual
def G.ren (f : Nat → Nat) : G → G
  | .d x => .d x
  | .agg gs => .agg (G.renAll f gs)
  | .ptr id off => .ptr (f id) off
  | .rp xs => .rp xs
  | .sl id n => .sl (f id) n
  | .slo id sz o n => .slo (f id) sz o n
  | .map id => .map (f id)
  | .fn k a b => .fn k (G.renAll f a) (G.renAll f b)
  | .tup gs => .tup (G.renAll f gs)
  | .junk => .junk
def G.renAll (f : Nat → Nat) : List G → List G
  | [] => []
  | g :: r => G.ren f g :: G.renAll f r
end
def Ob.ren (f : Nat → Nat) : Ob → Ob
  | .box t gs => .box t (G.renAll f gs)
  | .row t sz n ds => .row t sz n ds
  | .map agg es => .map agg es
  | .dead => .dead

theorem G.renAll_eq (f : Nat → Nat) : ∀ l : List G, G.renAll f l = l.map (G.ren f)
  | [] => rfl
  | g :: r => by simp [G.renAll, G.renAll_eq f r]

/-- The names of the callee's objects in the caller: those handed in, then the new ones. -/
def rn (ρ : List Nat) (L i : Nat) : Nat := match ρ[i]? with
  | some r => r
  | none => L + (i - ρ.length)

def upd : List Ob → List Nat → List Ob → List Ob
  | hp, r :: ρ, o :: os => upd (hp.set r o) ρ os
  | hp, _, _ => hp

section
variable {w : World} {O : Nat → Prop}
theorem VR.ren {Mc M : Mp} {f : Nat → Nat} (hM : ∀ i, i < Mc.length → M[f i]? = Mc[i]?) {g : G} {v : Value} (h : VR w O Mc g v) : VR w O M (g.ren f) v := by
  have hM' : ∀ i x, Mc[i]? = some x → M[f i]? = some x := fun i x hx => (hM i (Mp.lt hx)).trans hx
  induction h with
  | d h => exact .d h
  | agg hl _ ih => 
    simp only [G.ren, G.renAll_eq]
    refine .agg (by simpa using hl) fun j g v hg hv => ?_
    rw [List.getElem?_map] at hg
    obtain ⟨g0, hg0, rfl⟩ := Option.map_eq_some_iff.1 hg
    exact ih j g0 v hg0 hv
  | ptr h => exact .ptr (hM' _ _ h)
  | rp vs hb hO hc hv => exact .rp vs hb hO hc hv
  | sl h hn hm => exact .sl (hM' _ _ h) hn hm
  | slnil h => exact .slnil (hM' _ _ h)
  | slo h hn hm => exact .slo (hM' _ _ h) hn hm
  | slonil h => exact .slonil (hM' _ _ h)
  | map h => exact .map (hM' _ _ h)
  | fn l1 l2 _ _ i1 i2 =>
    simp only [G.ren, G.renAll_eq]
    refine .fn (by simpa using l1) (by simpa using l2) (fun j g v hg hv => ?_) (fun j g v hg hv => ?_)
    · rw [List.getElem?_map] at hg
      obtain ⟨g0, hg0, rfl⟩ := Option.map_eq_some_iff.1 hg
      exact i1 j g0 v hg0 hv
    · rw [List.getElem?_map] at hg
      obtain ⟨g0, hg0, rfl⟩ := Option.map_eq_some_iff.1 hg
      exact i2 j g0 v hg0 hv
  | tup hl _ ih => 
    simp only [G.ren, G.renAll_eq]
    refine .tup (by simpa using hl) fun j g v hg hv => ?_
    rw [List.getElem?_map] at hg
    obtain ⟨g0, hg0, rfl⟩ := Option.map_eq_some_iff.1 hg
    exact ih j g0 v hg0 hv
  | junk v => exact .junk v

theorem VR.unren {Mc M : Mp} {f : Nat → Nat} {k : Nat} (hM : ∀ i, i < k → Mc[i]? = M[f i]?) {g' : G} {v : Value} (h : VR w O M g' v) : ∀ g : G, g.ren f = g' → g.bel k = true → VR w O Mc g v := by
  induction h with
  | d h => intro g hg hb; cases g <;> simp only [G.ren, G.d.injEq, reduceCtorEq] at hg; subst hg; exact .d h
  | agg hl _ ih =>
    intro g hg hb
    cases g <;> simp only [G.ren, G.agg.injEq, reduceCtorEq] at hg
    subst hg
    rw [G.renAll_eq] at hl ih
    refine .agg (by simpa using hl) fun j g v hg hv => ih j (g.ren f) v (by simp [hg]) hv g rfl (G.belAll_spec.1 hb j g hg)
  | ptr h =>
    intro g hg hb
    cases g <;> simp only [G.ren, G.ptr.injEq, reduceCtorEq] at hg
    obtain ⟨rfl, rfl⟩ := hg
    exact .ptr ((hM _ (nblt.1 hb)).trans h)
  | rp vs hb hO hc hv =>
    intro g hg _
    cases g <;> simp only [G.ren, G.rp.injEq, reduceCtorEq] at hg
    subst hg
    exact .rp vs hb hO hc hv
  | sl h hn hm =>
    intro g hg hb
    cases g <;> simp only [G.ren, G.sl.injEq, reduceCtorEq] at hg
    obtain ⟨rfl, rfl⟩ := hg
    exact .sl ((hM _ (nblt.1 hb)).trans h) hn hm
  | slnil h =>
    intro g hg hb
    cases g <;> simp only [G.ren, G.sl.injEq, reduceCtorEq] at hg
    obtain ⟨rfl, rfl⟩ := hg
    exact .slnil ((hM _ (nblt.1 hb)).trans h)
  | slo h hn hm =>
    intro g hg hb
    cases g <;> simp only [G.ren, G.slo.injEq, reduceCtorEq] at hg
    obtain ⟨rfl, rfl, rfl, rfl⟩ := hg
    exact .slo ((hM _ (nblt.1 hb)).trans h) hn hm
  | slonil h =>
    intro g hg hb
    cases g <;> simp only [G.ren, G.slo.injEq, reduceCtorEq] at hg
    obtain ⟨rfl, rfl, rfl, rfl⟩ := hg
    exact .slonil ((hM _ (nblt.1 hb)).trans h)
  | map h =>
    intro g hg hb
    cases g <;> simp only [G.ren, G.map.injEq, reduceCtorEq] at hg
    subst hg
    exact .map ((hM _ (nblt.1 hb)).trans h)
  | fn l1 l2 _ _ i1 i2 =>
    intro g hg hb
    cases g <;> simp only [G.ren, G.fn.injEq, reduceCtorEq] at hg
    obtain ⟨rfl, rfl, rfl⟩ := hg
    simp only [G.bel, Bool.and_eq_true] at hb
    rw [G.renAll_eq] at l1 l2 i1 i2
    exact .fn (by simpa using l1) (by simpa using l2) (fun j g v hg hv => i1 j (g.ren f) v (by simp [hg]) hv g rfl (G.belAll_spec.1 hb.1 j g hg))
      (fun j g v hg hv => i2 j (g.ren f) v (by simp [hg]) hv g rfl (G.belAll_spec.1 hb.2 j g hg))
  | tup hl _ ih =>
    intro g hg hb
    cases g <;> simp only [G.ren, G.tup.injEq, reduceCtorEq] at hg
    subst hg
    rw [G.renAll_eq] at hl ih
    refine .tup (by simpa using hl) fun j g v hg hv => ih j (g.ren f) v (by simp [hg]) hv g rfl (G.belAll_spec.1 hb j g hg)
  | junk v =>
    intro g hg hb
    cases g <;> simp only [G.ren, reduceCtorEq] at hg
    exact .junk v

theorem ObR.unren {Mc M : Mp} {f : Nat → Nat} {k : Nat} (hM : ∀ i, i < k → Mc[i]? = M[f i]?) {o : Ob} {m} (h : ObR w O M (o.ren f) m) (hb : o.bel k = true) : ObR w O Mc o m := by
  cases o with
  | dead => trivial
  | map _ es => cases m <;> exact h
  | row t sz n ds => cases m <;> exact h
  | box t gs =>
    simp only [Ob.ren, G.renAll_eq] at h
    match m, h with
    | some (b, c), ⟨cs, h1, h2, hc⟩ =>
      refine ⟨cs, h1, by simpa using h2, fun j g hg => ?_⟩
      obtain ⟨v, e1, e2, e3⟩ := hc j (g.ren f) (by simp [hg])
      exact ⟨v, e1, e2, e3.unren hM g rfl (G.belAll_spec.1 hb j g hg)⟩

theorem ObR.rens {Mc M : Mp} {f : Nat → Nat} (hM : ∀ i, i < Mc.length → M[f i]? = Mc[i]?) {o : Ob} {m} (h : ObR w O Mc o m) : ObR w O M (o.ren f) m := by
  cases o with
  | dead => trivial
  | map _ es => cases m <;> exact h
  | row t sz n ds => cases m <;> exact h
  | box t gs =>
    simp only [Ob.ren, G.renAll_eq]
    match m, h with
    | some (b, c), ⟨cs, h1, h2, hc⟩ =>
      refine ⟨cs, h1, by simpa using h2, fun j g hg => ?_⟩
      rw [List.getElem?_map] at hg
      obtain ⟨g0, hg0, rfl⟩ := Option.map_eq_some_iff.1 hg
      obtain ⟨v, e1, e2, e3⟩ := hc j g0 hg0
      exact ⟨v, e1, e2, e3.ren hM⟩
end

theorem upd_length : ∀ (ρ : List Nat) (hp os : List Ob), (upd hp ρ os).length = hp.length
  | [], _, _ => by simp [upd]
  | _ :: _, _, [] => by simp [upd]
  | r :: ρ, hp, o :: os => by rw [upd, upd_length ρ]; simp
theorem upd_other : ∀ (ρ : List Nat) (hp os : List Ob) (j : Nat), j ∉ ρ → (upd hp ρ os)[j]? = hp[j]?
  | [], _, _, _, _ => by simp [upd]
  | _ :: _, _, [], _, _ => by simp [upd]
  | r :: ρ, hp, o :: os, j, h => by
    rw [upd, upd_other ρ _ _ _ (fun hm => h (List.mem_cons_of_mem _ hm)), List.getElem?_set_ne (fun e => h (by simp [e]))]
theorem upd_at : ∀ (ρ : List Nat) (hp os : List Ob) (i r : Nat) (o : Ob), ρ.Nodup → ρ[i]? = some r → os[i]? = some o → r < hp.length → (upd hp ρ os)[r]? = some o
  | [], _, _, _, _, _, _, h, _, _ => by simp at h
  | _ :: _, _, [], _, _, _, _, _, h, _ => by simp at h
  | r0 :: ρ, hp, o0 :: os, 0, r, o, hn, h, h', hl => by
    simp at h h'
    subst h; subst h'
    rw [upd, upd_other ρ _ _ _ (List.nodup_cons.1 hn).1]
    simp [hl]
  | r0 :: ρ, hp, o0 :: os, i + 1, r, o, hn, h, h', hl => by
    rw [upd]
    exact upd_at ρ _ os i r o (List.nodup_cons.1 hn).2 (by simpa using h) (by simpa using h') (by simpa using hl)

theorem RelH.block_lt {Z hp M w} (h : RelH Z hp M w) {b : Nat} (hb : own hp M b) : b < w.heap.size := by
  obtain ⟨i, o, c, h1, h2, h3⟩ := hb
  have ho := h.obj i o _ h1 h3
  cases o with
  | dead => cases h2
  | map _ es => obtain ⟨ms, cl, hh, _⟩ := ho; exact (Array.getElem?_eq_some_iff.1 hh).1
  | box t gs => obtain ⟨cs, hh, _⟩ := ho; exact (Array.getElem?_eq_some_iff.1 hh).1
  | row t sz n ds => obtain ⟨_, cs, hh, _⟩ := ho; exact (Array.getElem?_eq_some_iff.1 hh).1

theorem nodup_inj : ∀ {l : List Nat} {i j a b : Nat}, l.Nodup → l[i]? = some a → l[j]? = some b → a = b → i = j
  | [], _, _, _, _, _, h, _, _ => by simp at h
  | x :: l, 0, 0, _, _, _, _, _, _ => rfl
  | x :: l, 0, j + 1, a, b, hn, hi, hj, e => by
    simp at hi hj
    subst hi; subst e
    exact absurd (List.mem_of_getElem? hj) (List.nodup_cons.1 hn).1
  | x :: l, i + 1, 0, a, b, hn, hi, hj, e => by
    simp at hi hj
    subst hj; subst e
    exact absurd (List.mem_of_getElem? hi) (List.nodup_cons.1 hn).1
  | x :: l, i + 1, j + 1, a, b, hn, hi, hj, e => by
    simp at hi hj
    rw [nodup_inj (List.nodup_cons.1 hn).2 hi hj e]
/-- THE FRAME RULE. -/
theorem EC.frame {P : Program} {f : FuncId} {gc : List G} {hc : List Ob} {Rc : G → List Ob → Prop} {hp : List Ob} (h : EC P f gc hc Rc) (ρ : List Nat) (hρ : ρ.length = hc.length) (hnd : ρ.Nodup)
    (hobj : ∀ (i : Nat) (o : Ob) (r : Nat), hc[i]? = some o → ρ[i]? = some r → hp[r]? = some (o.ren (rn ρ hp.length))) (hcb : HB hc.length hc) (hgb : G.belAll hc.length gc = true) :
    EC P f (gc.map (G.ren (rn ρ hp.length))) hp (fun g hp' => ∃ g0 hc', Rc g0 hc' ∧ g = g0.ren (rn ρ hp.length) ∧ hc.length ≤ hc'.length ∧
      hp' = upd hp ρ (hc'.map (Ob.ren (rn ρ hp.length))) ++ (hc'.drop ρ.length).map (Ob.ren (rn ρ hp.length))) := by
  intro Z w M vs hr hsz hvs
  have hin : ∀ (i r : Nat), ρ[i]? = some r → ∃ o : Ob, hc[i]? = some o ∧ hp[r]? = some (o.ren (rn ρ hp.length)) := fun i r hi => by
    have hlt : i < hc.length := by rw [← hρ]; exact (List.getElem?_eq_some_iff.1 hi).1
    exact ⟨_, List.getElem?_eq_getElem hlt, hobj i _ r (List.getElem?_eq_getElem hlt) hi⟩
  have hrl : ∀ (r : Nat), r ∈ ρ → r < M.length := fun r hm => by
    obtain ⟨i, hi⟩ := List.getElem?_of_mem hm
    obtain ⟨o, _, h2⟩ := hin i r hi
    have hlt : r < hp.length := (List.getElem?_eq_some_iff.1 h2).1
    rw [hr.len]; exact hlt
  -- the callee's view
  let Mc : Mp := ρ.map fun r => (M[r]?).join
  have hMcl : Mc.length = hc.length := by simp [Mc, hρ]
  have hMc : ∀ i r, ρ[i]? = some r → Mc[i]? = M[r]? := fun i r hi => by
    have hlt := hrl r (List.mem_of_getElem? hi)
    show (ρ.map fun r => (M[r]?).join)[i]? = _
    rw [List.getElem?_map, hi]
    rw [show M[r]? = some (M[r]'hlt) from List.getElem?_eq_getElem hlt]
    simp [List.getElem?_eq_getElem hlt]
  have hMcf : ∀ i, i < hc.length → Mc[i]? = M[rn ρ hp.length i]? := fun i hi => by
    have hi' : ρ[i]? = some (ρ[i]'(by omega)) := List.getElem?_eq_getElem (by omega)
    rw [hMc i _ hi']
    simp [rn, hi']
  have hownc : ∀ b, own hc Mc b → own hp M b := by
    rintro b ⟨i, o, c, h1, h2, h3⟩
    have hi : i < hc.length := (List.getElem?_eq_some_iff.1 h1).1
    have hi' : ρ[i]? = some (ρ[i]'(by omega)) := List.getElem?_eq_getElem (by omega)
    refine ⟨_, _, c, hobj i o _ h1 hi', ?_, by rw [← hMc i _ hi']; exact h3⟩
    cases o <;> first | rfl | cases h2
  let Zc : Env := ⟨fun b => (own hp M b ∨ Z.z b) ∧ ¬ own hc Mc b, fun b => ownZ Z hp M b ∧ ¬ own hc Mc b, fun b h => ⟨h.1.imp id (Z.hv b), h.2⟩, Z.x, fun w w' hs hx => Z.st w w' (fun b hb => hs b ⟨.inr hb, fun h => hr.apart b (hownc b h) hb⟩) hx, Z.ax⟩
  have hO : ownZ Zc hc Mc = ownZ Z hp M := by
    funext b
    apply propext
    constructor
    · rintro (hb | hb)
      · exact .inl (hownc b hb)
      · exact hb.1
    · intro hb
      by_cases hc' : own hc Mc b
      · exact .inl hc'
      · exact .inr ⟨hb, hc'⟩
  have hrc : RelH Zc hc Mc w := by
    refine ⟨hMcl, fun i o m ho hm => ?_, fun b hb hz => hz.2 hb, fun b hb => ?_, hr.amb, fun i j oi oj b c c' hi hj li lj mi mj => ?_⟩
    · have hi : i < hc.length := (List.getElem?_eq_some_iff.1 ho).1
      have hi' : ρ[i]? = some (ρ[i]'(by omega)) := List.getElem?_eq_getElem (by omega)
      rw [hO]
      exact (hr.obj _ _ m (hobj i o _ ho hi') (by rw [← hMc i _ hi']; exact hm)).unren hMcf (hcb i o ho)
    · rcases hb.1 with hb | hb
      · exact hr.block_lt hb
      · exact hr.old b hb
    · have hi1 : i < hc.length := (List.getElem?_eq_some_iff.1 hi).1
      have hj1 : j < hc.length := (List.getElem?_eq_some_iff.1 hj).1
      have hi' : ρ[i]? = some (ρ[i]'(by omega)) := List.getElem?_eq_getElem (by omega)
      have hj' : ρ[j]? = some (ρ[j]'(by omega)) := List.getElem?_eq_getElem (by omega)
      have lr : ∀ o : Ob, o.live = true → (o.ren (rn ρ hp.length)).live = true := fun o ho => by cases o <;> first | rfl | cases ho
      have := hr.inj _ _ _ _ b c c' (hobj i oi _ hi hi') (hobj j oj _ hj hj') (lr _ li) (lr _ lj) (by rw [← hMc i _ hi']; exact mi) (by rw [← hMc j _ hj']; exact mj)
      exact nodup_inj hnd hi' hj' this
  refine (h Zc w Mc vs hrc (by simpa using hsz) (fun j g v hg hv => ?_)).mono ?_
  · rw [hO]
    exact (hvs j (g.ren _) v (by simp [hg]) hv).unren hMcf g rfl (G.belAll_spec.1 hgb j g hg)
  rintro e w' ⟨v, g, hc', Mc', he, hR, hr', hv', hs', hA'⟩
  -- back in the caller
  have hlen : hc.length ≤ hc'.length := by rw [← hr'.len]; exact hA'.le
  let M' : Mp := M ++ Mc'.drop hc.length
  let fn := rn ρ hp.length
  have hM'old : ∀ i, i < M.length → M'[i]? = M[i]? := fun i hi => List.getElem?_append_left hi
  have hM'f : ∀ i, i < Mc'.length → M'[fn i]? = Mc'[i]? := fun i hi => by
    by_cases hi' : i < hc.length
    · have hr1 : ρ[i]? = some (ρ[i]'(by omega)) := List.getElem?_eq_getElem (by omega)
      have e1 : fn i = ρ[i]'(by omega) := by simp [fn, rn, hr1]
      rw [e1, hM'old _ (hrl _ (List.mem_of_getElem? hr1)), ← hMc i _ hr1]
      exact (hA'.eq i hi').symm
    · have hr1 : ρ[i]? = none := List.getElem?_eq_none (by omega)
      have e1 : fn i = hp.length + (i - ρ.length) := by simp [fn, rn, hr1]
      rw [e1, hρ]
      show (M ++ Mc'.drop hc.length)[_]? = _
      rw [List.getElem?_append_right (by rw [hr.len]; omega), List.getElem?_drop]
      congr 1
      rw [hr.len]
      omega
  let hp' := upd hp ρ (hc'.map (Ob.ren fn)) ++ (hc'.drop ρ.length).map (Ob.ren fn)
  have hul : (upd hp ρ (hc'.map (Ob.ren fn))).length = hp.length := upd_length _ _ _
  have hp'at : ∀ i o, hc'[i]? = some o → hp'[fn i]? = some (o.ren fn) := fun i o ho => by
    have hi := (List.getElem?_eq_some_iff.1 ho).1
    by_cases hi' : i < hc.length
    · have hr1 : ρ[i]? = some (ρ[i]'(by omega)) := List.getElem?_eq_getElem (by omega)
      have e1 : fn i = ρ[i]'(by omega) := by simp [fn, rn, hr1]
      have hlt := hrl _ (List.mem_of_getElem? hr1)
      rw [hr.len] at hlt
      show (upd _ _ _ ++ _)[_]? = _
      rw [e1, List.getElem?_append_left (by rw [hul]; exact hlt)]
      exact upd_at ρ hp _ i _ _ hnd hr1 (by simp [ho]) hlt
    · have hr1 : ρ[i]? = none := List.getElem?_eq_none (by omega)
      have e1 : fn i = hp.length + (i - ρ.length) := by simp [fn, rn, hr1]
      show (upd _ _ _ ++ _)[_]? = _
      rw [e1, List.getElem?_append_right (by rw [hul]; omega), hul, List.getElem?_map, List.getElem?_drop]
      have : ρ.length + (hp.length + (i - ρ.length) - hp.length) = i := by omega
      rw [this, ho]
      rfl
  have hp'cases : ∀ j o, hp'[j]? = some o → (j ∉ ρ ∧ j < hp.length ∧ hp[j]? = some o) ∨ ∃ i o', hc'[i]? = some o' ∧ j = fn i ∧ o = o'.ren fn := fun j o ho => by
    by_cases hj : j < hp.length
    · by_cases hm : j ∈ ρ
      · obtain ⟨i, hi⟩ := List.getElem?_of_mem hm
        have hil : i < ρ.length := (List.getElem?_eq_some_iff.1 hi).1
        have hci : hc'[i]? = some (hc'[i]'(by omega)) := List.getElem?_eq_getElem (by omega)
        have e1 : fn i = j := by simp [fn, rn, hi]
        have := hp'at i _ hci
        rw [e1, ho] at this
        cases this
        exact .inr ⟨i, _, hci, e1.symm, rfl⟩
      · have : (upd hp ρ (hc'.map (Ob.ren fn)) ++ (hc'.drop ρ.length).map (Ob.ren fn))[j]? = some o := ho
        rw [List.getElem?_append_left (by rw [hul]; exact hj), upd_other _ _ _ _ hm] at this
        exact .inl ⟨hm, hj, this⟩
    · have : (upd hp ρ (hc'.map (Ob.ren fn)) ++ (hc'.drop ρ.length).map (Ob.ren fn))[j]? = some o := ho
      rw [List.getElem?_append_right (by rw [hul]; omega), hul, List.getElem?_map, List.getElem?_drop] at this
      obtain ⟨o', ho', rfl⟩ := Option.map_eq_some_iff.1 this
      refine .inr ⟨_, o', ho', ?_, rfl⟩
      have : ρ[ρ.length + (j - hp.length)]? = none := List.getElem?_eq_none (by omega)
      simp only [fn, rn, this]
      omega
  have liveren : ∀ o : Ob, (o.ren fn).live = o.live := fun o => by cases o <;> rfl
  have hM'lt : ∀ j o, hp'[j]? = some o → j < hp.length → M'[j]? = M[j]? := fun j o _ hj => hM'old j (by rw [hr.len]; exact hj)
  -- an object that was not handed in is one of the others'
  have other : ∀ j o b c, j ∉ ρ → hp[j]? = some o → o.live = true → M[j]? = some (some (b, c)) → Zc.v b := fun j o b c hj ho hl hm => by
    refine ⟨.inl ⟨j, o, c, ho, hl, hm⟩, ?_⟩
    rintro ⟨i, oi, ci, h1, h2, h3⟩
    have hi : i < hc.length := (List.getElem?_eq_some_iff.1 h1).1
    have hi' : ρ[i]? = some (ρ[i]'(by omega)) := List.getElem?_eq_getElem (by omega)
    have e := hr.inj j _ o _ b c ci ho (hobj i oi _ h1 hi') hl (by rw [liveren]; exact h2) hm (by rw [← hMc i _ hi']; exact h3)
    exact hj (e ▸ List.mem_of_getElem? hi')
  have hO' : ownZ Zc hc' Mc' = ownZ Z hp' M' := by
    funext b
    apply propext
    constructor
    · rintro (⟨i, o, c, h1, h2, h3⟩ | ⟨hb, hnb⟩)
      · exact .inl ⟨fn i, _, c, hp'at i o h1, by rw [liveren]; exact h2, by rw [hM'f i (Mp.lt h3)]; exact h3⟩
      · rcases hb with ⟨j, o, c, h1, h2, h3⟩ | hb
        · by_cases hj : j ∈ ρ
          · exfalso
            obtain ⟨i, hi⟩ := List.getElem?_of_mem hj
            obtain ⟨o', e1, e2⟩ := hin i j hi
            rw [h1] at e2
            cases e2
            exact hnb ⟨i, o', c, e1, by rw [← liveren]; exact h2, by rw [hMc i j hi]; exact h3⟩
          · have hjl : j < hp.length := (List.getElem?_eq_some_iff.1 h1).1
            refine .inl ⟨j, o, c, ?_, h2, by rw [hM'old j (Mp.lt h3)]; exact h3⟩
            show (upd _ _ _ ++ _)[_]? = _
            rw [List.getElem?_append_left (by rw [hul]; exact hjl), upd_other _ _ _ _ hj]
            exact h1
        · exact .inr hb
    · rintro (⟨j, o, c, h1, h2, h3⟩ | hb)
      · rcases hp'cases j o h1 with ⟨hj, hjl, ho⟩ | ⟨i, o', ho', rfl, rfl⟩
        · refine .inr (other j o b c hj ho h2 ?_)
          rw [← hM'old j (by rw [hr.len]; exact hjl)]
          exact h3
        · exact .inl ⟨i, o', c, ho', by rw [← liveren]; exact h2, by rw [← hM'f i (by rw [hr'.len]; exact (List.getElem?_eq_some_iff.1 ho').1)]; exact h3⟩
      · by_cases hb' : own hc Mc b
        · exact absurd (Z.hv b hb) (hr.apart b (hownc b hb'))
        · exact .inr ⟨.inr hb, hb'⟩
  have hst : Stp w (own hp M) w' (own hp' M') := by
    refine ⟨hs'.size, fun b hb hn => hs'.keep b hb fun h1 => hn (hownc b h1), fun b hb ho => ?_, hs'.os, hs'.tape, hs'.output⟩
    have : ownZ Zc hc' Mc' b := by rw [hO']; exact .inl ho
    rcases this with h1 | h1
    · exact hownc b (hs'.own b hb h1)
    · rcases h1.1 with h2 | h2
      · exact h2
      · exfalso
        obtain ⟨j, o, c, h1', h2', h3'⟩ := ho
        rcases hp'cases j o h1' with ⟨hj, hjl, ho⟩ | ⟨i, o', ho', rfl, rfl⟩
        · exact hr.apart b ⟨j, o, c, ho, h2', by rw [← hM'old j (by rw [hr.len]; exact hjl)]; exact h3'⟩ (Z.hv b h2)
        · have : own hc' Mc' b := ⟨i, o', c, ho', by rw [← liveren]; exact h2', by rw [← hM'f i (by rw [hr'.len]; exact (List.getElem?_eq_some_iff.1 ho').1)]; exact h3'⟩
          exact h1.2 (hs'.own b hb this)
  have hMlen : M'.length = hp'.length := by
    show (M ++ Mc'.drop hc.length).length = (upd _ _ _ ++ _).length
    rw [List.length_append, List.length_append, hul]
    simp [hr.len, hr'.len, hρ]
  refine ⟨v, g.ren fn, hp', M', he, ⟨g, hc', hR, rfl, hlen, rfl⟩, ⟨hMlen, fun j o m ho hm => ?_, fun b hb hz => ?_, fun b hb => Nat.lt_of_lt_of_le (hr.old b hb) hs'.size, hr'.amb, fun i j oi oj b c c' hi hj li lj mi mj => ?_⟩, ?_, hst, ?_⟩
  · rcases hp'cases j o ho with ⟨hj, hjl, ho'⟩ | ⟨i, o', ho', rfl, rfl⟩
    · have hm' : M[j]? = some m := by rw [← hM'old j (by rw [hr.len]; exact hjl)]; exact hm
      have := hr.obj j o m ho' hm'
      refine this.move (k := M.length) (stp_z Z hst) hM'old this.bel fun b c e hl => ?_
      subst e
      have hz := other j o b c hj ho' hl hm'
      exact hs'.keep b (hr.block_lt ⟨j, o, c, ho', hl, hm'⟩) hz.2
    · have hi := (List.getElem?_eq_some_iff.1 ho').1
      rw [hM'f i (by rw [hr'.len]; exact hi)] at hm
      have := hr'.obj i o' m ho' hm
      rw [hO'] at this
      exact this.rens hM'f
  · have hbz : ownZ Zc hc' Mc' b := by rw [hO']; exact .inl hb
    rcases hbz with h1 | h1
    · exact hr'.apart b h1 ⟨.inr hz, fun h2 => hr.apart b (hownc b h2) hz⟩
    · obtain ⟨j, o, c, h1', h2', h3'⟩ := hb
      rcases hp'cases j o h1' with ⟨hj, hjl, ho⟩ | ⟨i, o', ho', rfl, rfl⟩
      · exact hr.apart b ⟨j, o, c, ho, h2', by rw [← hM'old j (by rw [hr.len]; exact hjl)]; exact h3'⟩ hz
      · exact hr'.apart b ⟨i, o', c, ho', by rw [← liveren]; exact h2', by rw [← hM'f i (by rw [hr'.len]; exact (List.getElem?_eq_some_iff.1 ho').1)]; exact h3'⟩ (Zc.hv b h1)
  · rcases hp'cases i oi hi with ⟨hi1, hil, ho1⟩ | ⟨k, ok, hk, rfl, rfl⟩
    · rcases hp'cases j oj hj with ⟨hj1, hjl, ho2⟩ | ⟨l, ol, hl', rfl, rfl⟩
      · rw [hM'old i (by rw [hr.len]; exact hil)] at mi
        rw [hM'old j (by rw [hr.len]; exact hjl)] at mj
        exact hr.inj i j oi oj b c c' ho1 ho2 li lj mi mj
      · exfalso
        rw [hM'old i (by rw [hr.len]; exact hil)] at mi
        rw [hM'f l (by rw [hr'.len]; exact (List.getElem?_eq_some_iff.1 hl').1)] at mj
        exact hr'.apart b ⟨l, ol, c', hl', by rw [← liveren]; exact lj, mj⟩ (Zc.hv b (other i oi b c hi1 ho1 li mi))
    · rcases hp'cases j oj hj with ⟨hj1, hjl, ho2⟩ | ⟨l, ol, hl', rfl, rfl⟩
      · exfalso
        rw [hM'old j (by rw [hr.len]; exact hjl)] at mj
        rw [hM'f k (by rw [hr'.len]; exact (List.getElem?_eq_some_iff.1 hk).1)] at mi
        exact hr'.apart b ⟨k, ok, c, hk, by rw [← liveren]; exact li, mi⟩ (Zc.hv b (other j oj b c' hj1 ho2 lj mj))
      · rw [hM'f k (by rw [hr'.len]; exact (List.getElem?_eq_some_iff.1 hk).1)] at mi
        rw [hM'f l (by rw [hr'.len]; exact (List.getElem?_eq_some_iff.1 hl').1)] at mj
        rw [hr'.inj k l ok ol b c c' hk hl' (by rw [← liveren]; exact li) (by rw [← liveren]; exact lj) mi mj]
  · rw [← hO']
    exact hv'.ren hM'f
  · refine ⟨?_, fun i hi => hM'old i (by rw [hr.len]; exact hi)⟩
    rw [hMlen]
    show hp.length ≤ (upd _ _ _ ++ _).length
    rw [List.length_append, hul]
    omega
end Go.Gk
