/-
  THE GHOST LOGIC, PART 40: a row that loses a part of its middle (slices.Delete): its front, its end moved onto it, what lies behind let go.
  THE GHOST LOGIC, PART 41: slices that lie in rows, maps and structs and grow in place: tags, given out by a bag.
  THE GHOST LOGIC, PART 42: local arrays with an index that is not told; == on arrays of numbers; loops taken apart.
  THE GHOST LOGIC, PART 43: regions that draw their order and lay boxes in no order: each order is gone through, and the boxes are named anew.
-/
import Derived.Test.YtnjnmkpgedkffaaGk39
set_option linter.unusedVariables false
set_option linter.unusedSimpArgs false
set_option linter.unusedSectionVars false
namespace Go.Gk
open Go.Instr
variable {P : Program} {Γ : TypeId → Option TI} {F N : Nat} {Q : GPost} {fr fr' : Fr} {hp hp' : List Ob} {ks : List Kt}
variable {α : Type} {enc : α → List D} {ops : Array Oper} {rest : List Oper} {g : G}
variable {d : Tmp} {op : Op} {ty : TypeId} {pos : String} {after : Array Edge} {gd' : Option (Nat × Bool)}
end Go.Gk
namespace Go.Gk
/-- A slice with its tag. -/
abbrev Tl (α : Type) : Type := Nat × List α
def Slt {α : Type} (te : TypeId) (sz : Nat) (enc : α → List D) (s : Tl α) : D := .rt te sz s.1 s.2.length (s.2.flatMap enc)
def eT {α : Type} (te : TypeId) (sz : Nat) (enc : α → List D) (s : Tl α) : List D := [Slt te sz enc s]
/-- A new tag. -/
theorem tag_push {Z : Env} {hp hp1 : List Ob} {M : Mp} {w w' : World} {bg : Nat} {al al0 : List Bool} (T : Option Tg) (hr : RelH Z hp M w) (hbag : hp[bg]? = some (.bag al)) (hl : hp1.length = hp.length)
    (h1 : ∀ (i : Nat) (o : Ob), hp1[i]? = some o → o = .dead ∨ (i ≠ bg ∧ hp[i]? = some o) ∨ (i = bg ∧ o = .bag (al0 ++ [true]))) (hb1 : hp1[bg]? = some (.bag (al0 ++ [true])))
    (g1 : w.heap.size ≤ w'.heap.size) (g2 : w'.os = w.os) (g3 : w'.tape = w.tape) (g4 : w'.output = w.output) (hkeep : ∀ k, k < w.heap.size → (∀ y : Tg, T = some y → k ≠ y.b) → w'.heap[k]? = w.heap[k]?)
    (hlen : al0.length = al.length) (hal : ∀ t : Nat, al0[t]? = some true → al[t]? = some true)
    (hT : ∀ y : Tg, T = some y → (∃ cur : Array Value, w'.heap[y.b]? = some (.cells cur y.t (0, 0)) ∧ cur.size = y.c * y.sz ∧ y.n ≤ y.c ∧ y.c ≤ maxLen) ∧ (y.b < w.heap.size → own hp M y.b) ∧ ¬ obOwn hp1 M y.b ∧
      (∀ x : Tg, some x ∈ M.h → x.b = y.b → x.n * x.sz ≤ y.n * y.sz ∧ ∀ k, k < x.n * x.sz → w'.cell? ⟨x.b, k, none⟩ = w.cell? ⟨x.b, k, none⟩) ∧ (∀ (t : Nat) (x : Tg), al0[t]? = some true → M.h[t]? = some (some x) → x.b ≠ y.b)) :
    RelH Z hp1 ⟨M.l, M.h ++ [T]⟩ w' ∧ Stp w (own hp M) w' (own hp1 ⟨M.l, M.h ++ [T]⟩) ∧ Agr hp.length M ⟨M.l, M.h ++ [T]⟩ := by
  have hbl : bg < hp.length := (List.getElem?_eq_some_iff.1 hbag).1
  have hbm : M.l[bg]? = some none := by
    have e : M.l[bg]? = some (M.l[bg]'(by rw [hr.len]; exact hbl)) := List.getElem?_eq_getElem _
    have := hr.obj bg _ _ hbag e
    revert this
    rw [e]
    cases M.l[bg]'(by rw [hr.len]; exact hbl) with
    | none => exact fun _ => rfl
    | some _ => exact fun h => h.elim
  obtain ⟨q1, q2, q3⟩ := hr.obj bg _ _ hbag hbm
  have hg : hasBag hp := ⟨bg, al, hbag⟩
  have hg1 : hasBag hp1 := ⟨bg, _, hb1⟩
  have hmem : ∀ x : Tg, some x ∈ M.h ++ [T] → some x ∈ M.h ∨ T = some x := fun x hx => (List.mem_append.1 hx).imp id fun h => (List.mem_singleton.1 h).symm
  have hob : ∀ b, obOwn hp1 M b → obOwn hp M b := by
    rintro b ⟨i, o, c, e1, e2, e3⟩
    rcases h1 i o e1 with rfl | ⟨_, e⟩ | ⟨rfl, rfl⟩
    · cases e2
    · exact ⟨i, o, c, e, e2, e3⟩
    · rw [hbm] at e3; cases e3
  have hob' : ∀ b, obOwn hp1 ⟨M.l, M.h ++ [T]⟩ b → obOwn hp M b := fun b h => hob b h
  have hown : ∀ b, b < w.heap.size → own hp1 ⟨M.l, M.h ++ [T]⟩ b → own hp M b := by
    rintro b hb (h | ⟨_, x, hx, rfl⟩)
    · exact .inl (hob b h)
    · rcases hmem x hx with hx | hx
      · exact .inr ⟨hg, x, hx, rfl⟩
      · exact (hT x hx).2.1 hb
  have hfz : ∀ x : Tg, some x ∈ M.h → ∀ k, k < x.n * x.sz → w'.cell? ⟨x.b, k, none⟩ = w.cell? ⟨x.b, k, none⟩ := fun x hx k hk => by
    by_cases hxy : ∃ y, T = some y ∧ x.b = y.b
    · obtain ⟨y, hy, e⟩ := hxy
      exact ((hT y hy).2.2.2.1 x hx e).2 k hk
    · exact World.cell?_of_block (hkeep _ (hr.bags.tgs x hx).1 fun y hy e => hxy ⟨y, hy, e⟩)
  have hst : Stp w (own hp M) w' (own hp1 ⟨M.l, M.h ++ [T]⟩) := by
    refine ⟨g1, fun b hb hn => hkeep b hb fun y hy e => ?_, hown, g2, g3, g4, ⟨[T], rfl, fun x hx hb => ?_⟩, hfz, fun h => absurd hg h⟩
    · subst e; exact hn ((hT y hy).2.1 hb)
    · exact (hT x (List.mem_singleton.1 hx).symm).2.1 hb
  refine ⟨⟨by rw [hl]; exact hr.len, fun i o m e1 e2 => ?_, fun b hb hz => ?_, fun b hb => Nat.lt_of_lt_of_le (hr.old b hb) g1, hr.amb_stp hst, fun i j oi oj b c c' hi hj li lj mi mj => ?_, ⟨fun x hx => ⟨?_, fun h => ?_⟩, fun i j a a' hi hj => ?_⟩⟩, hst, ⟨by rw [show (⟨M.l, M.h ++ [T]⟩ : Mp).l.length = M.l.length from rfl, hr.len]; exact Nat.le_refl _, fun _ _ => rfl⟩⟩
  · have e2' : M.l[i]? = some m := e2
    rcases h1 i o e1 with rfl | ⟨hi, e⟩ | ⟨rfl, rfl⟩
    · cases m <;> trivial
    · have := hr.obj i o m e e2'
      refine this.move (k := M.l.length) (M := M) (M' := ⟨M.l, M.h ++ [T]⟩) (stp_z Z hst) (fun _ _ => rfl) this.bel (fun b c em hl2 => ?_) fun a ea => ?_
      · subst em
        refine hkeep b (hr.block_ob ⟨i, o, c, e, hl2, e2'⟩) fun y hy eb => (hT y hy).2.2.1 ⟨i, o, c, e1, hl2, eb ▸ e2'⟩
      · subst ea
        exact absurd (hr.bags.one _ _ _ _ e hbag) hi
    · rw [hbm] at e2'
      cases e2'
      have hnew : ∀ (t : Nat) (x : Tg), (al0 ++ [true])[t]? = some true → (M.h ++ [T])[t]? = some (some x) → (t < al.length ∧ al0[t]? = some true ∧ M.h[t]? = some (some x)) ∨ (t = al.length ∧ T = some x) := fun t x ha hx => by
        by_cases ht : t < al.length
        · rw [List.getElem?_append_left (by omega)] at ha
          rw [List.getElem?_append_left (by omega)] at hx
          exact .inl ⟨ht, ha, hx⟩
        · rw [List.getElem?_append_right (by omega)] at hx
          rw [List.getElem?_append_right (by omega)] at ha
          have hk : t - M.h.length = 0 := by
            have := (List.getElem?_eq_some_iff.1 hx).1
            simp at this; exact this
          rw [hk] at hx
          simp at hx
          exact .inr ⟨by omega, hx⟩
      refine ⟨by simp; omega, fun t x ha hx => ?_, fun t t' x x' ha hx hx' hb => ?_⟩
      · rcases hnew t x ha hx with ⟨_, ha', hx'⟩ | ⟨_, hy⟩
        · obtain ⟨cs, k1, k2⟩ := q2 t x (hal t ha') hx'
          refine ⟨cs, ?_, k2⟩
          rw [hkeep _ (hr.bags.tgs x (List.mem_of_getElem? hx')).1 fun y hy => (hT y hy).2.2.2.2 t x ha' hx']
          exact k1
        · obtain ⟨⟨cur, k1, k2, k3, k4⟩, _⟩ := hT x hy
          exact ⟨cur, k1, k2, k3, k4⟩
      · have hx2 : (t' < al.length ∧ M.h[t']? = some (some x')) ∨ (t' = al.length ∧ T = some x') := by
          have hx'' : (M.h ++ [T])[t']? = some (some x') := hx'
          by_cases ht : t' < al.length
          · rw [List.getElem?_append_left (by omega)] at hx''; exact .inl ⟨ht, hx''⟩
          · rw [List.getElem?_append_right (by omega)] at hx''
            have hk : t' - M.h.length = 0 := by
              have := (List.getElem?_eq_some_iff.1 hx'').1
              simp at this; exact this
            rw [hk] at hx''
            simp at hx''
            exact .inr ⟨by omega, hx''⟩
        rcases hnew t x ha hx with ⟨ht, ha', hx1⟩ | ⟨ht, hy⟩
        · rcases hx2 with ⟨ht', hx2⟩ | ⟨ht', hy'⟩
          · obtain ⟨k1, k2⟩ := q3 t t' x x' (hal t ha') hx1 hx2 hb
            refine ⟨k1, fun ha2 => k2 (hal t' ?_)⟩
            rw [List.getElem?_append_left (by omega)] at ha2
            exact ha2
          · exact absurd hb.symm ((hT x' hy').2.2.2.2 t x ha' hx1)
        · rcases hx2 with ⟨ht', hx2⟩ | ⟨ht', hy'⟩
          · refine ⟨((hT x hy).2.2.2.1 x' (List.mem_of_getElem? hx2) hb).1, fun ha2 => ?_⟩
            rw [List.getElem?_append_left (by omega)] at ha2
            exact absurd hb ((hT x hy).2.2.2.2 t' x' ha2 hx2)
          · rw [hy] at hy'
            cases hy'
            exact ⟨Nat.le_refl _, fun _ => by omega⟩
  · by_cases hb' : b < w.heap.size
    · exact hr.apart b (hown b hb' hb) hz
    · exact absurd (hr.old b hz) hb'
  · have key : ∀ (i : Nat) (o : Ob) (c : Nat), hp1[i]? = some o → o.live = true → M.l[i]? = some (some (b, c)) → hp[i]? = some o := fun i o c e1 e2 e3 => by
      rcases h1 i o e1 with rfl | ⟨_, e⟩ | ⟨rfl, rfl⟩
      · cases e2
      · exact e
      · rw [hbm] at e3; cases e3
    exact hr.inj i j oi oj b c c' (key i oi c hi li mi) (key j oj c' hj lj mj) li lj mi mj
  · rcases hmem x hx with hx | hx
    · exact Nat.lt_of_lt_of_le (hr.bags.tgs x hx).1 g1
    · obtain ⟨⟨cur, k1, _⟩, _⟩ := hT x hx
      exact (Array.getElem?_eq_some_iff.1 k1).1
  · rcases hmem x hx with hx | hx
    · exact (hr.bags.tgs x hx).2 (hob _ h)
    · exact (hT x hx).2.2.1 h
  · have key : ∀ (i : Nat) (a : List Bool), hp1[i]? = some (.bag a) → i = bg := fun i a e => by
      rcases h1 i _ e with h | ⟨_, h⟩ | ⟨h, _⟩
      · cases h
      · exact hr.bags.one _ _ _ _ h hbag
      · exact h
    rw [key i a hi, key j a' hj]
section
variable {P : Program} {Γ : TypeId → Option TI} {F N : Nat} {Q : GPost} {fr fr' : Fr} {hp hp' : List Ob} {ks : List Kt}
variable {ops : Array Oper} {rest : List Oper} {g : G} {α : Type} {enc : α → List D}
variable {d : Tmp} {op : Op} {ty : TypeId} {pos : String} {after : Array Edge} {gd : Option (Nat × Bool)}
/-- What append does with a slice that has a tag (or is full), case by case. -/
theorem app_tag {Z : Env} {M : Mp} {w : World} {bg t te tyo : TypeId} {i2 : TI} {al al0 : List Bool} {n m tg : Nat} {ds ys : List D} {sv xv : Value} (hΓ : TOK P Γ) (u1 : P.underlying t = some (.slice te)) (h2 : Γ te = some i2) (hz : Nat.beq i2.zero.cells.size i2.size = true) (hz0 : Nat.blt 0 i2.size = true)
    (hr : RelH Z hp M w) (hx : VD w (ownZ Z hp M) (.rt te i2.size tg n ds) sv) (hdl : ds.length = n * i2.size) (hy : VD w (ownZ Z hp M) (.ro m ys) xv) (hl : ys.length = m * i2.size) (hb : (n + m) * i2.bytes ≤ 140737488355328) (hm : n + m ≤ maxLen) (hm0 : 0 < m)
    (hbag : hp[bg]? = some (.bag al)) (htg : (tg = 1 ∧ al0 = al) ∨ ∃ q, tg = q + 2 ∧ al[q]? = some true ∧ al0 = al.set q false) :
    ∃ (v' : Value) (w' : World) (gb c' : Nat) (cur : Array Value), (Builtin.append_ #[t, t] tyo #[sv, xv]).run P w = .ok v' w' ∧ w.heap.size ≤ w'.heap.size ∧ w'.os = w.os ∧ w'.tape = w.tape ∧ w'.output = w.output ∧ v' = .slice (some ⟨gb, 0, none⟩) (n + m) c' ∧
      w'.heap[gb]? = some (.cells cur te (0, 0)) ∧ cur.size = c' * i2.size ∧ n + m ≤ c' ∧ c' ≤ maxLen ∧ (∀ (j : Nat) (dd : D), (ds ++ ys)[j]? = some dd → ∃ u, cur[j]? = some u ∧ VD w (ownZ Z hp M) dd u) ∧ (∀ k, k < w.heap.size → k ≠ gb → w'.heap[k]? = w.heap[k]?) ∧
      (w.heap.size ≤ gb ∨ ∃ (q : Nat) (x : Tg), tg = q + 2 ∧ al[q]? = some true ∧ al0 = al.set q false ∧ M.h[q]? = some (some x) ∧ x.b = gb ∧ x.n = n ∧ x.sz = i2.size ∧ ∀ k, k < n * i2.size → w'.cell? ⟨gb, k, none⟩ = w.cell? ⟨gb, k, none⟩) := by
  obtain ⟨_, inf, e1, e2, e3, e4⟩ := hΓ te _ h2
  have hzs : i2.zero.cells.size = inf.size := by rw [e2]; exact Nat.eq_of_beq_eq_true hz
  have hpos : 0 < i2.size := nblt.1 hz0
  cases hx with
  | rt _ _ _ _ _ _ hx hT =>
  -- the source
  obtain ⟨xb, xo, xc, news, rfl, hnl, hnc, hnv, hn1⟩ : ∃ (b off cap : Nat) (vs : List Value), xv = .slice (some ⟨b, off, none⟩) m cap ∧ vs.length = ys.length ∧ (∀ (j : Nat) (u : Value), vs[j]? = some u → w.cell? ⟨b, off + j, none⟩ = some u) ∧ (∀ (j : Nat) (u : Value) (d : D), vs[j]? = some u → ys[j]? = some d → VD w (ownZ Z hp M) d u) ∧ ∀ u ∈ vs, u.oneCell' = true := by
    rcases data_cells hy with ⟨_, rfl, _⟩ | h
    · omega
    · exact h
  have hnews : ∀ (cur : Array Value), (∀ j u, news[j]? = some u → cur[n * i2.size + j]? = some u) → ∀ (j : Nat) (dd : D), ys[j]? = some dd → ∃ u, cur[n * i2.size + j]? = some u ∧ VD w (ownZ Z hp M) dd u := fun cur hc j dd hj => by
    have hlt : j < news.length := by rw [hnl]; exact (List.getElem?_eq_some_iff.1 hj).1
    have := List.getElem?_eq_getElem hlt
    exact ⟨_, hc j _ this, hnv j _ dd this hj⟩
  have hboth : ∀ (cur : Array Value), (∀ (j : Nat) (dd : D), ds[j]? = some dd → ∃ u, cur[j]? = some u ∧ VD w (ownZ Z hp M) dd u) → (∀ j u, news[j]? = some u → cur[n * i2.size + j]? = some u) → ∀ (j : Nat) (dd : D), (ds ++ ys)[j]? = some dd → ∃ u, cur[j]? = some u ∧ VD w (ownZ Z hp M) dd u := fun cur h1 h2 j dd hj => by
    by_cases hjd : j < ds.length
    · rw [List.getElem?_append_left hjd] at hj; exact h1 j dd hj
    · rw [List.getElem?_append_right (by omega)] at hj
      obtain ⟨u, k1, k2⟩ := hnews cur h2 _ dd hj
      exact ⟨u, by rw [← k1]; congr 1; omega, k2⟩
  -- a nil slice
  have nilCase : sv = .slice none 0 0 → n = 0 → ∃ (v' : Value) (w' : World) (gb c' : Nat) (cur : Array Value), (Builtin.append_ #[t, t] tyo #[sv, .slice (some ⟨xb, xo, none⟩) m xc]).run P w = .ok v' w' ∧ w.heap.size ≤ w'.heap.size ∧ w'.os = w.os ∧ w'.tape = w.tape ∧ w'.output = w.output ∧ v' = .slice (some ⟨gb, 0, none⟩) (n + m) c' ∧
      w'.heap[gb]? = some (.cells cur te (0, 0)) ∧ cur.size = c' * i2.size ∧ n + m ≤ c' ∧ c' ≤ maxLen ∧ (∀ (j : Nat) (dd : D), (ds ++ ys)[j]? = some dd → ∃ u, cur[j]? = some u ∧ VD w (ownZ Z hp M) dd u) ∧ (∀ k, k < w.heap.size → k ≠ gb → w'.heap[k]? = w.heap[k]?) ∧ w.heap.size ≤ gb := by
    rintro rfl rfl
    obtain ⟨v', w', mo', hrun, k1, k2, k3, k4, hres⟩ := app_core (P := P) (tyo := tyo) (n := 0) (m := m) (cs0 := #[]) (sv := .slice none 0 0) none u1 e1 e4 hzs (by rw [e2]; exact hpos) (.inl ⟨rfl, rfl, rfl⟩) (.inr ⟨xb, xo, xc, rfl, hnc⟩) (by rw [hnl, hl, e2]) hn1 hm (by rw [e3]; exact hb)
    rcases hres with ⟨_, _, r3, _⟩ | ⟨b', c', cur, r1, r2, r3, r4, r5, r6, r7, r8, r9, r10⟩
    · omega
    · rcases r10 with ⟨c, hc⟩ | r10
      · cases hc
      · have hds : ds = [] := List.eq_nil_of_length_eq_zero (by simpa using hdl)
        subst hds
        exact ⟨v', w', b', c', cur, hrun, k1, k2, k3, k4, r2, r3, by rw [r4, e2], r5, r6, hboth cur (fun j dd h => by simp at h) (fun j u h => by have := r8 j u h; rw [e2] at this; exact this), r9, by omega⟩
  rcases htg with ⟨rfl, rfl⟩ | ⟨q, rfl, hq, rfl⟩
  · -- full
    obtain ⟨a, rfl⟩ := hT
    rcases data_cells hx with ⟨e, rfl, rfl⟩ | ⟨b, off, cap, vs, e, hvl, hvc, hvv, _⟩
    · obtain ⟨v', w', gb, c', cur, k1, k2, k3, k4, k5, k6, k7, k8, k9, k10, k11, k12, k13⟩ := nilCase e rfl
      exact ⟨v', w', gb, c', cur, k1, k2, k3, k4, k5, k6, k7, k8, k9, k10, k11, k12, .inl k13⟩
    · cases e
      obtain ⟨v', w', r1, r2, r3⟩ := run_append_arg_grows (P := P) w t tyo te inf i2.zero inf.size inf.bytes u1 e1 e4 rfl rfl hzs (by rw [e2]; exact hpos) ⟨b, off, none⟩ n n vs (by rw [hvl, hdl, e2]) (fun j u hj => by rw [Addr.add_lit]; exact hvc j u hj) ⟨xb, xo, none⟩ m xc news (by rw [hnl, hl, e2]) (fun j u hj => by rw [Addr.add_lit]; exact hnc j u hj) (by omega) hm (by rw [e3]; exact hb)
      rcases r2.2 with ⟨rfl, hn0⟩ | ⟨gb, c', cur, rfl, q1, q2, q3, q4, q5, q6⟩
      · omega
      · have hcur : ∀ j u, (vs ++ news)[j]? = some u → cur[j]? = some u := fun j u hj => by
          have hlt := (List.getElem?_eq_some_iff.1 hj).1
          rw [← q6, List.getElem?_take_of_lt (by rw [List.length_append, hvl, hnl, hdl, hl, ← Nat.add_mul, ← e2] at hlt; exact hlt)] at hj
          simpa using hj
        refine ⟨_, w', gb, c', cur, r1, r3.size, r3.os, r3.tape, r3.output, rfl, q2, by rw [q5, e2], q3, q4, hboth cur (fun j dd hj => ?_) (fun j u hj => ?_), fun k hk hne => r3.block k hk (by simp), .inl q1⟩
        · have hlt : j < vs.length := by rw [hvl]; exact (List.getElem?_eq_some_iff.1 hj).1
          have hv := List.getElem?_eq_getElem hlt
          exact ⟨_, hcur j _ (by rw [List.getElem?_append_left hlt]; exact hv), hvv j _ dd hv hj⟩
        · refine hcur _ u ?_
          rw [List.getElem?_append_right (by rw [hvl, hdl]; omega), hvl, hdl]
          rw [← hj]; congr 1; omega
  · rcases hT with ⟨hn, rfl⟩ | ⟨x, hxh, hxn, hxt, hxs, rfl⟩
    · have : n = 0 := by
        cases hx with
        | nil => rfl
      obtain ⟨v', w', gb, c', cur, k1, k2, k3, k4, k5, k6, k7, k8, k9, k10, k11, k12, k13⟩ := nilCase rfl this
      exact ⟨v', w', gb, c', cur, k1, k2, k3, k4, k5, k6, k7, k8, k9, k10, k11, k12, .inl k13⟩
    · subst hxn; subst hxt
      have hbl : bg < hp.length := (List.getElem?_eq_some_iff.1 hbag).1
      have e : M.l[bg]? = some (M.l[bg]'(by rw [hr.len]; exact hbl)) := List.getElem?_eq_getElem _
      have hbo := hr.obj bg _ _ hbag e
      obtain ⟨cs0, c1, c2, c3, c4⟩ : ∃ cs : Array Value, w.heap[x.b]? = some (.cells cs x.t (0, 0)) ∧ cs.size = x.c * x.sz ∧ x.n ≤ x.c ∧ x.c ≤ maxLen := by
        revert hbo
        cases M.l[bg]'(by rw [hr.len]; exact hbl) with
        | none => exact fun h => h.2.1 q x hq hxh
        | some _ => exact fun h => h.elim
      obtain ⟨v', w', mo', hrun, k1, k2, k3, k4, hres⟩ := app_core (P := P) (tyo := tyo) (n := x.n) (m := m) (cs0 := cs0) (sv := .slice (some ⟨x.b, 0, none⟩) x.n x.c) (some (x.b, x.c)) u1 e1 e4 hzs (by rw [e2]; exact hpos) (.inr ⟨x.b, x.c, rfl, rfl, c1, by rw [c2, hxs, e2], c3, c4⟩) (.inr ⟨xb, xo, xc, rfl, hnc⟩) (by rw [hnl, hl, e2]) hn1 hm (by rw [e3]; exact hb)
      have holds : ∀ (j : Nat) (dd : D), ds[j]? = some dd → ∃ u, cs0[j]? = some u ∧ VD w (ownZ Z hp M) dd u := fun j dd hj => by
        rcases data_cells hx with ⟨e, _⟩ | ⟨b, off, cap, vs, e, hvl, hvc, hvv, _⟩
        · simp at e
        · simp only [Value.slice.injEq, Option.some.injEq, Addr.mk.injEq] at e
          obtain ⟨⟨e1, e2, _⟩, _⟩ := e
          subst e2
          have hlt : j < vs.length := by rw [hvl]; exact (List.getElem?_eq_some_iff.1 hj).1
          have hv := List.getElem?_eq_getElem hlt
          have := hvc j _ hv
          rw [Nat.zero_add, ← e1, cell_of_row w x.b j cs0 _ _ c1] at this
          exact ⟨_, this, hvv j _ dd hv hj⟩
      rcases hres with ⟨_, _, r3, _⟩ | ⟨b', c', cur, r1, r2, r3, r4, r5, r6, r7, r8, r9, r10⟩
      · omega
      · have hold' : ∀ (j : Nat) (dd : D), ds[j]? = some dd → ∃ u, cur[j]? = some u ∧ VD w (ownZ Z hp M) dd u := fun j dd hj => by
          obtain ⟨u, f1, f2⟩ := holds j dd hj
          have hlt := (List.getElem?_eq_some_iff.1 hj).1
          exact ⟨u, by rw [r7 j (by rw [← e2] at hdl; omega) (by simp)]; exact f1, f2⟩
        refine ⟨v', w', b', c', cur, hrun, k1, k2, k3, k4, r2, r3, by rw [r4, e2], r5, r6, hboth cur hold' (fun j u h => by have := r8 j u h; rw [e2] at this; exact this), r9, ?_⟩
        rcases r10 with ⟨c, hc⟩ | r10
        · cases hc
          refine .inr ⟨q, x, rfl, hq, rfl, hxh, rfl, rfl, hxs, fun k hk => ?_⟩
          rw [cell_of_row w' x.b k cur _ _ r3, cell_of_row w x.b k cs0 _ _ c1]
          exact r7 k (by rw [e2]; exact hk) (by simp)
        · exact .inl (by omega)
def appT {α : Type} (al : List Bool) (s : Tl α) (m : List α) : Option (Tl α × List Bool) :=
  bi (apd s.2 m) fun r => bif m.isEmpty then some (s, al) else match s.1 with
    | 0 => none
    | 1 => some ((al.length + 2, r), al ++ [true])
    | t + 2 => bif (al[t]?).getD false then some ((al.length + 2, r), al.set t false ++ [true]) else none
theorem appT_ok {al al' : List Bool} {s r : Tl α} {m : List α} (h : appT al s m = some (r, al')) : apd s.2 m = some (s.2 ++ m) ∧ ((m = [] ∧ r = s ∧ al' = al) ∨ (m ≠ [] ∧ r = (al.length + 2, s.2 ++ m) ∧ ∃ al0, al' = al0 ++ [true] ∧ ((s.1 = 1 ∧ al0 = al) ∨ ∃ q, s.1 = q + 2 ∧ al[q]? = some true ∧ al0 = al.set q false))) := by
  unfold appT at h
  obtain ⟨r0, hr, h⟩ := bi_ok h
  obtain ⟨rfl, hle⟩ := apd_ok hr
  refine ⟨hr, ?_⟩
  cases m with
  | nil => simp at h; exact .inl ⟨rfl, h.1.symm, h.2.symm⟩
  | cons y m =>
    right
    simp only [List.isEmpty_cons, cond_false] at h
    refine ⟨by simp, ?_⟩
    obtain ⟨t, l⟩ := s
    match t, h with
    | 1, h => simp at h; exact ⟨h.1.symm, al, h.2.symm, .inl ⟨rfl, rfl⟩⟩
    | t + 2, h =>
      simp only at h
      cases hc : (al[t]?).getD false with
      | false => rw [hc] at h; cases h
      | true =>
        rw [hc] at h
        simp at h
        refine ⟨h.1.symm, al.set t false, h.2.symm, .inr ⟨t, rfl, ?_, rfl⟩⟩
        cases hq : al[t]? with
        | none => rw [hq] at hc; cases hc
        | some b => rw [hq] at hc; simp at hc; rw [hc]
theorem run_append_zero {w : World} {t te tyo : TypeId} {inf : TypeInfo} {n c : Nat} {a : Option Addr} {xv : Value} (hu : P.underlying t = some (.slice te)) (hi : P.info? te = some inf) (hn : n ≤ c) (hx : (xv = .slice none 0 0) ∨ ∃ b cap, xv = .slice (some b) 0 cap) :
    (Builtin.append_ #[t, t] tyo #[.slice a n c, xv]).run P w = .ok (.slice a n c) w := by
  rcases hx with rfl | ⟨b, cap, rfl⟩
  · cases a <;> simp [Builtin.append_, run_underlying hu, sizeOf, typeInfo, hi, Builtin.lenOf, Builtin.firstCells, hn, storeCells]
  · cases a <;> simp [Builtin.append_, run_underlying hu, sizeOf, typeInfo, hi, Builtin.lenOf, Builtin.firstCells, loadCells, loadCellsFrom, hn, storeCells]
theorem vd_ro_le {w : World} {O : Ow} {n : Nat} {xs : List D} {v : Value} (h : VD w O (.ro n xs) v) : ∃ a c, v = .slice a n c ∧ n ≤ c := by
  cases h with
  | nil => exact ⟨_, _, rfl, Nat.le_refl _⟩
  | ro _ _ b off cap vs h3 h4 h5 => exact ⟨_, _, rfl, h5⟩
/-- APPEND to a slice that has a tag. -/
theorem ops_appT (hΓ : TOK P Γ) {t te : TypeId} {i1 i2 : TI} {x y : Operand} {bg : Nat} {s r : Tl α} {m : List α} {al al' : List Bool} {hp2 : List Ob} (hz : appT al s m = some (r, al')) (h1 : Γ t = some i1) (h1' : i1.desc = .slice te) (h2 : Γ te = some i2) (hzc : Nat.beq i2.zero.cells.size i2.size = true) (hz0 : Nat.blt 0 i2.size = true)
    (hx : fr.ev x = some (.d (Slt te i2.size enc s))) (hy : fr.ev y = some (.d (Sl enc m))) (hbag : hp[bg]? = some (.bag al)) (henc : ∀ y, (enc y).length = i2.size) (hbytes : Nat.ble (4294967296 * i2.bytes) 140737488355328 = true) (hhp : hp.set bg (.bag al') = hp2) :
    OpS P N ⟨some d, .call ⟨.builtin .append, #[x, y], #[t, t]⟩, ty, pos, after, gd⟩ fr hp (.d (Slt te i2.size enc r)) hp2 := by
  subst hhp
  intro Z w M a hr
  obtain ⟨u1, _⟩ := hΓ t _ h1
  rw [h1'] at u1
  have hvx := hr.ev hx
  have hvy := hr.ev hy
  obtain ⟨hap, hcase⟩ := appT_ok hz
  obtain ⟨_, hle⟩ := apd_ok hap
  generalize hvvx : a.eval x = vx at hvx
  generalize hvvy : a.eval y = vy at hvy
  cases hvx with
  | d hvx =>
  cases hvy with
  | d hvy =>
  have hb := Nat.le_of_ble_eq_true hbytes
  have hmul : (s.2.length + m.length) * i2.bytes ≤ 4294967296 * i2.bytes := Nat.mul_le_mul_right _ hle
  rcases hcase with ⟨rfl, rfl, rfl⟩ | ⟨hmne, rfl, al0, rfl, htg⟩
  · obtain ⟨_, inf, e1, e2, e3, e4⟩ := hΓ te _ h2
    have hset : hp.set bg (.bag al') = hp := by
      apply List.ext_getElem?
      intro j
      by_cases hj : bg = j
      · subst hj; rw [List.getElem?_set_self (List.getElem?_eq_some_iff.1 hbag).1, hbag]
      · rw [List.getElem?_set_ne hj]
    rw [hset]
    have hrun : (Builtin.append_ #[t, t] ty #[vx, vy]).run P w = .ok vx w := by
      have hxx : ∃ a' n' c', vx = .slice a' n' c' ∧ n' ≤ c' := by
        cases hvx with
        | rt _ _ _ _ _ _ hx' _ => exact let ⟨a', c', e, h⟩ := vd_ro_le hx'; ⟨a', _, c', e, h⟩
      obtain ⟨a', n', c', rfl, hn'⟩ := hxx
      refine run_append_zero u1 e1 hn' ?_
      rcases data_cells hvy with ⟨e, _⟩ | ⟨b, off, cap, vs, e, _⟩
      · exact .inl e
      · exact .inr ⟨_, _, e⟩
    exact ⟨vx, w, M, by simp [execOp, resolve, invoke, builtin, hvvx, hvvy, hrun], hr.heap, .d hvx, .refl _ _, ⟨Nat.le_of_eq hr.heap.len.symm, fun _ _ => rfl⟩⟩
  · have hm0 : 0 < m.length := by cases m with
      | nil => exact absurd rfl hmne
      | cons _ _ => simp
    obtain ⟨v', w', gb, c', cur, k1, k2, k3, k4, k5, k6, k7, k8, k9, k10, k11, k12, k13⟩ := app_tag (P := P) (tyo := ty) (bg := bg) hΓ u1 h2 hzc hz0 hr.heap hvx (flat_len henc s.2) hvy (flat_len henc m) (by omega) (by simp only [maxLen]; omega) hm0 hbag htg
    have hbl : bg < hp.length := (List.getElem?_eq_some_iff.1 hbag).1
    have hlen : al0.length = al.length := by rcases htg with ⟨_, rfl⟩ | ⟨q, _, _, rfl⟩ <;> simp
    have hal : ∀ t : Nat, al0[t]? = some true → al[t]? = some true := fun t ht => by
      rcases htg with ⟨_, rfl⟩ | ⟨q, _, _, rfl⟩
      · exact ht
      · by_cases hqt : q = t
        · subst hqt
          have hl := (List.getElem?_eq_some_iff.1 ht).1
          rw [List.getElem?_set_self (by simpa using hl)] at ht
          cases ht
        · rw [List.getElem?_set_ne hqt] at ht; exact ht
    have hobg : ¬ obOwn (hp.set bg (.bag (al0 ++ [true]))) M gb := by
      rintro ⟨i, o, c, e1, e2, e3⟩
      have hold : hp[i]? = some o ∧ o.live = true := by
        by_cases hi : bg = i
        · subst hi
          exfalso
          have := hr.heap.obj bg _ _ hbag e3
          exact this
        · rw [List.getElem?_set_ne hi] at e1; exact ⟨e1, e2⟩
      rcases k13 with h | ⟨q, x, _, _, _, hxh, rfl, _⟩
      · have := hr.heap.block_ob ⟨i, o, c, hold.1, hold.2, e3⟩; omega
      · exact (hr.heap.bags.tgs x (List.mem_of_getElem? hxh)).2 ⟨i, o, c, hold.1, hold.2, e3⟩
    have hbo : al.length = M.h.length ∧ (∀ (t t' : Nat) (x x' : Tg), al[t]? = some true → M.h[t]? = some (some x) → M.h[t']? = some (some x') → x'.b = x.b → x'.n * x'.sz ≤ x.n * x.sz ∧ (al[t']? = some true → t' = t)) := by
      have e : M.l[bg]? = some (M.l[bg]'(by rw [hr.heap.len]; exact hbl)) := List.getElem?_eq_getElem _
      have := hr.heap.obj bg _ _ hbag e
      revert this
      cases M.l[bg]'(by rw [hr.heap.len]; exact hbl) with
      | none => exact fun h => ⟨h.1, h.2.2⟩
      | some _ => exact fun h => h.elim
    obtain ⟨r1, r2, r3⟩ := tag_push (hp1 := hp.set bg (.bag (al0 ++ [true]))) (al0 := al0) (some ⟨gb, s.2.length + m.length, c', i2.size, te⟩) hr.heap hbag (by simp) (fun i o hi => by
        by_cases hib : bg = i
        · subst hib; rw [List.getElem?_set_self hbl] at hi; cases hi; exact .inr (.inr ⟨rfl, rfl⟩)
        · rw [List.getElem?_set_ne hib] at hi; exact .inr (.inl ⟨Ne.symm hib, hi⟩)) (List.getElem?_set_self hbl) k2 k3 k4 k5 (fun k hk hne => k12 k hk (hne _ rfl)) hlen hal (fun y hy => by
        cases hy
        refine ⟨⟨cur, k7, k8, k9, k10⟩, fun hlt => ?_, hobg, fun x hx hxb => ?_, fun t x ht hx hxb => ?_⟩
        · rcases k13 with h | ⟨q, x, _, _, _, hxh, hxb, _⟩
          · have : gb < w.heap.size := hlt; omega
          · exact .inr ⟨⟨bg, al, hbag⟩, x, List.mem_of_getElem? hxh, hxb⟩
        · rcases k13 with h | ⟨q, x0, _, hq, _, hxh, hxb0, hxn, hxs, hfz⟩
          · have := (hr.heap.bags.tgs x hx).1
            rw [hxb] at this
            exact absurd this (Nat.not_lt.2 h)
          · obtain ⟨t', ht'⟩ := List.getElem?_of_mem hx
            have hle2 := (hbo.2 q t' x0 x hq hxh ht' (hxb.trans hxb0.symm)).1
            have hmm : s.2.length * i2.size ≤ (s.2.length + m.length) * i2.size := Nat.mul_le_mul_right _ (by omega)
            rw [hxn, hxs] at hle2
            refine ⟨Nat.le_trans hle2 hmm, fun k hk => ?_⟩
            rw [hxb]
            exact hfz k (Nat.lt_of_lt_of_le hk hle2)
        · rcases k13 with h | ⟨q, x0, _, hq, ha0, hxh, hxb0, _⟩
          · have := (hr.heap.bags.tgs x (List.mem_of_getElem? hx)).1
            rw [hxb] at this
            exact absurd this (Nat.not_lt.2 h)
          · have hqt := (hbo.2 q t x0 x hq hxh hx (hxb.trans hxb0.symm)).2 (hal t ht)
            subst hqt
            rw [ha0, List.getElem?_set_self (List.getElem?_eq_some_iff.1 hq).1] at ht
            cases ht)
    refine ⟨v', w', _, by simp [execOp, resolve, invoke, builtin, hvvx, hvvy, k1], r1, .d (.rt _ _ _ _ _ _ ?_ ?_), r2, r3⟩
    · rw [k6]
      have hlr : (s.2 ++ m).length = s.2.length + m.length := List.length_append
      have hfl : ((s.2 ++ m).flatMap enc).length = (s.2.length + m.length) * i2.size := by rw [flat_len henc, hlr]
      rw [hlr]
      refine .ro _ _ gb 0 c' (fun j => cur.getD j undef) (Array.getElem?_eq_some_iff.1 k7).1 (fun j hj _ => ⟨_, List.mem_append_right _ (List.mem_singleton.2 rfl), rfl, ?_⟩) k9 k10 (fun j dd hj => ?_) (fun j dd hj => ?_)
      · rw [hfl] at hj; simpa using hj
      · rw [List.flatMap_append] at hj
        obtain ⟨u, f1, _⟩ := k11 j dd hj
        rw [Nat.zero_add, cell_of_row w' gb j cur _ _ k7]
        simp [f1]
      · rw [List.flatMap_append] at hj
        obtain ⟨u, f1, f2⟩ := k11 j dd hj
        simpa [f1] using f2.step (stp_z Z r2)
    · refine .inr ⟨⟨gb, s.2.length + m.length, c', i2.size, te⟩, ?_, by simp, rfl, rfl, by rw [k6]; simp⟩
      show (M.h ++ [_])[al.length]? = _
      rw [hbo.1]
      simp
/-! ### Tags that are taken as less, or made -/
theorem op_le {o : Oper} {g' : G} (h : OpP P N o fr hp g) (hle : g.Le g') : OpP P N o fr hp g' := fun Z w M a hr => let ⟨v, h1, h2⟩ := h Z w M a hr; ⟨v, h1, hle _ _ _ _ h2⟩
theorem G.Le.unt {te : TypeId} {sz : Nat} {s : Tl α} : G.Le (.d (Slt te sz enc s)) (.d (Sl enc s.2)) := fun w O M v hv => by
  cases hv with
  | d h => cases h with
    | rt _ _ _ _ _ _ h _ => exact .d h
theorem G.Le.tagN {te : TypeId} {sz : Nat} : G.Le (.d (.v (.slice none 0 0))) (.d (Slt te sz enc (1, []))) := fun w O M v hv => by
  rw [vr_v hv]
  exact .d (.rt _ _ _ _ _ _ .nil ⟨_, rfl⟩)
theorem G.Le.tagF {te : TypeId} {sz : Nat} {l : List α} : G.Le (.d (Slf enc l)) (.d (Slt te sz enc (1, l))) := fun w O M v hv => by
  cases hv with
  | d h =>
    have h' := h.unrf
    cases h with
    | rf _ _ b off vs hb hO hm hc hv => exact .d (.rt _ _ _ _ _ _ h' ⟨_, rfl⟩)
/-- A new local, its slices with tags. -/
theorem ops_allocT (hΓ : TOK P Γ) (ks : List Nat) (gs : List G) {t : TypeId} {i : TI} (hi : Γ t = some i) (h1 : (i.zero.cells.toList.all (·.oneCell')) = true) (hle : G.LeAll (zeroX ks i) gs) : OpS P N ⟨some d, .alloc t, ty, pos, after, gd⟩ fr hp (.ptr hp.length 0) (hp ++ [.box t gs]) := fun Z w M a hr => by
  obtain ⟨_, inf, e1, e2, e3, e4⟩ := hΓ t i hi
  obtain ⟨hl, hg⟩ := hle.spec
  have hc : i.zero.cells.size = gs.length ∧ CellsR w (ownZ Z hp M) M i.zero.cells gs := by
    refine ⟨by rw [← hl]; simp [zeroX], fun j g hj => ?_⟩
    obtain ⟨g0, h0, hle0⟩ := hg j g hj
    obtain ⟨c, k1, k2, k3⟩ := zeroX_ok h1 j g0 h0
    exact ⟨c, k1, k2, hle0 _ _ _ _ k3⟩
  obtain ⟨r1, r2, r3⟩ := box_push (t := t) hr.heap hc
  refine ⟨.pointer (some ⟨w.heap.size, 0, none⟩), _, _, ?_, r1, .ptr (c := 0) ?_, r2, r3⟩
  · simp [execOp, Instr.alloc, zeroValue, typeInfo, e1, e4, newVar, newRow]
  · rw [← hr.heap.len]; simp
theorem cv_hp {M : Fr → List Ob → Prop} (hp2 : List Ob) (h : hp = hp2) (k : Cv F N M fr hp2) : Cv F N M fr hp := by subst h; exact k
/-! ### Locals that are laid in whatever order -/
theorem zeroX_cells {ks : List Nat} {i : TI} {gs : List G} (hz : (i.zero.cells.toList.all (·.oneCell')) = true) (hle : G.LeAll (zeroX ks i) gs) : i.zero.cells.size = gs.length ∧ ∀ w O M, CellsR w O M i.zero.cells gs := by
  obtain ⟨hl, hg⟩ := hle.spec
  refine ⟨by rw [← hl]; simp [zeroX], fun w O M j g hj => ?_⟩
  obtain ⟨g0, h0, hle0⟩ := hg j g hj
  simp only [zeroX, List.getElem?_mapIdx] at h0
  obtain ⟨c, hc, rfl⟩ := Option.map_eq_some_iff.1 h0
  have h1 := List.all_eq_true.1 hz c (List.mem_of_getElem? hc)
  refine ⟨c, by simpa using hc, h1, hle0 _ _ _ _ (.d ?_)⟩
  cases ks.contains j with
  | true => exact .v c h1
  | false => exact vd_nilD c h1
theorem lays_alloc (hΓ : TOK P Γ) {t : TypeId} {i : TI} (hi : Γ t = some i) {o : Oper} (ho : o.op = .alloc t) : Lays P o t i.zero.cells := fun ev w => by
  obtain ⟨_, inf, e1, e2, e3, e4⟩ := hΓ t i hi
  simp [execOp, ho, Instr.alloc, zeroValue, typeInfo, e1, e4, newVar, newRow]
section
variable {hpL : List Ob} {ll hl bl : List Nat} {k : Nat} {QF : Fr → List Ob → Prop}
theorem ge_new (hΓ : TOK P Γ) (j : Nat) {t : TypeId} {i : TI} (hi : Γ t = some i) (hk : Nat.blt k 1000 = true) (hn : inL bl (k + 1000 * (j + 1)) = true) (hd : Nat.blt d N = true) (kk : GE P N hpL ll hl bl ops QF (k + 1) rest ((d, .junk) :: fr) hp) : GE P N hpL ll hl bl ops QF k (⟨some d, .alloc t, ty, pos, after, none⟩ :: rest) fr hp := by
  refine ⟨some d, .junk, hp, .inr (.inl ⟨⟨j, d, t, i.zero.cells, ⟨nblt.1 hk, hn⟩, rfl, nblt.1 hd, rfl, lays_alloc hΓ hi rfl⟩, rfl, rfl, rfl⟩), ?_⟩
  unfold GE at kk
  rw [Fr.get_cons] at kk
  exact kk
theorem ge_fill (hΓ : TOK P Γ) (i0 d0 : Nat) (ks : List Nat) (gs : List G) (hp' : List Ob) {o0 : Oper} {t0 : TypeId} {i : TI} (ho0 : ops[i0]? = some o0) (hop : o0.op = .alloc t0) (hod : o0.dst = some d0) (hi : Γ t0 = some i) (hz : (i.zero.cells.toList.all (·.oneCell')) = true) (hle : G.LeAll (zeroX ks i) gs)
    (hk : Nat.blt i0 1000 = true) (hn : inL bl (i0 + 1000 * (k + 1)) = true) (hh : inL hl k = true) (hlen : Nat.ble (hp ++ [Ob.box t0 gs]).length hp'.length = true) (hst : inL bl k = false → Stays hpL hp → Stays hpL hp')
    (hq : QtE P N ⟨none, op, ty, pos, after, none⟩ (Fr.only (Oper.looksAt ops ⟨none, op, ty, pos, after, none⟩) ((d0, .ptr hp.length 0) :: fr)) (hp ++ [.box t0 gs]) g hp') (kk : GE P N hpL ll hl bl ops QF (k + 1) rest ((d0, .ptr hp.length 0) :: fr) hp') (hnn : noNew bl k = true := by rfl) :
    GE P N hpL ll hl bl ops QF k (⟨none, op, ty, pos, after, none⟩ :: rest) fr hp := by
  obtain ⟨z1, z2⟩ := zeroX_cells hz hle
  have hlen' := Nat.le_of_ble_eq_true hlen
  refine ⟨some d0, .ptr hp.length 0, hp', .inr (.inr (.inr ⟨hh, ⟨i0, d0, o0, t0, i.zero.cells, gs, g, ⟨nblt.1 hk, hn⟩, ho0, hod, lays_alloc hΓ hi hop, z1, z2, rfl, rfl, rfl, ?_, ⟨(fun d' h => by cases h), .inl rfl, hlen', _, fun t g' h => ?_, hq⟩⟩, noNew_ok hnn, hst⟩)), ?_⟩
  · simp at hlen'; omega
  · have := Fr.only_get h
    rw [Fr.get_cons] at this
    exact this
  · unfold GE at kk
    rw [Fr.get_cons] at kk
    exact kk
end
end
end Go.Gk
namespace Go.Gk
/-- An element set anew. -/
def updA {α : Type} (k : Int) (j : Nat) (v a : α) : α := if k = (j : Int) then v else a
def updL {α : Type} (k : Int) (v : α) : Nat → List α → List α
  | _, [] => []
  | j, a :: l => updA k j v a :: updL k v (j + 1) l
section
variable {P : Program} {Γ : TypeId → Option TI} {F N : Nat} {Q : GPost} {fr fr' : Fr} {hp : List Ob} {ks : List Kt}
variable {α : Type} {enc : α → List D} {ops : Array Oper} {rest : List Oper} {g : G}
variable {d : Tmp} {op : Op} {ty : TypeId} {pos : String} {after : Array Edge} {gd' : Option (Nat × Bool)}
theorem op_elemArr (hΓ : TOK P Γ) {t e : TypeId} {i1 i2 : TI} {x y : Operand} {id off len : Nat} {l : List α} {z : α} {kd : IntKind} {k : Int} (hz : getZ l k = some z) (hl : l.length = len) (h1 : Γ t = some i1) (h1' : i1.desc = .array len e) (h2 : Γ e = some i2)
    (hx : fr.ev x = some (.ptr id off)) (hy : fr.ev y = some (.d (.v (.int kd k)))) : OpP P N ⟨some d, .indexAddr t x y, ty, pos, after, gd'⟩ fr hp (.ptr id (off + k.toNat * i2.size)) := fun Z w M a hr => by
  obtain ⟨i, rfl, hi, _⟩ := getZ_ok hz
  rw [hl] at hi
  obtain ⟨u1, _⟩ := hΓ t _ h1
  rw [h1'] at u1
  have hs := run_size' (P := P) (w := w) hΓ h2
  have hvx := hr.ev hx
  simp only [execOp, hr.ev_v hy]
  generalize a.eval x = vx at hvx
  cases hvx with
  | ptr hM =>
    rename_i b c
    refine ⟨.pointer (some ⟨b, off + i * i2.size, none⟩), ?_, .ptr hM⟩
    have : (0 : Int) ≤ (i : Int) ∧ (i : Int) < (len : Int) := by omega
    simp [Instr.indexAt, Instr.sureAddr, asIntOf, run_underlying u1, hs, this, Addr.add_lit, hi]
/-! ### == on arrays of numbers -/
/-! ### Loops taken apart -/
/-- A loop of n rounds at most, told round by round. -/
def Rn (P : Program) (F N : Nat) (Q : GPost) (c : Code) (ks : List Kt) : Nat → Fr → List Ob → Prop
  | 0 => fun _ _ => False
  | n + 1 => fun fr hp => St.holds P F N Q (.code c (.mid (Rn P F N Q c ks n) :: ks)) fr hp
theorem rn_next {c : Code} {n : Nat} (h : St.holds P F N Q (.code c (.mid (Rn P F N Q c ks n) :: ks)) fr hp) : Rn P F N Q c ks (n + 1) fr hp := h
theorem j_rounds {c : Code} (n : Nat) (h : Rn P F N Q c ks n fr hp) : St.holds P F N Q (.code (.loop c) ks) fr hp := by
  intro Z w0 O0 M0 w M a hs ha hr
  refine wp_loop_ghost (fun n a w => ∃ fr hp M, Rn P F N Q c ks n fr hp ∧ Stp w0 O0 w (own hp M) ∧ Agr F M0 M ∧ Rel Z hp M w fr a N) n ⟨fr, hp, M, h, hs, ha, hr⟩ ?_
  rintro n a w ⟨fr, hp, M, hI, hs, ha, hr⟩
  cases n with
  | zero => exact hI.elim
  | succ n =>
    refine wp_mono (hI Z w0 O0 M0 w M a hs ha hr) ?_
    rintro e a w ⟨fr, hp, M, hq, r1, r2, r3⟩
    cases e with
    | normal => exact ⟨n, Nat.lt_succ_self n, fr, hp, M, hq, r2, r3, r1⟩
    | _ => exact ⟨fr, hp, M, hq, r1, r2, r3⟩
end
end Go.Gk
namespace Go.Gk
/-! ### Objects named anew -/
def pf (ρ : List Nat) (i : Nat) : Nat := ρ.getD i i
def prmB (ρ σ : List Nat) (n0 n : Nat) : Bool := (List.range n).all (fun i => Nat.blt (pf ρ i) n && Nat.blt (pf σ i) n && Nat.beq (pf σ (pf ρ i)) i && Nat.beq (pf ρ (pf σ i)) i) && (List.range n0).all fun i => Nat.beq (pf ρ i) i
def prmObs (ρ σ : List Nat) (hp : List Ob) : List Ob := (List.range hp.length).map fun j => (hp.getD (pf σ j) .dead).ren (pf ρ)
theorem prmObs_get {ρ σ : List Nat} {hp : List Ob} {j : Nat} {o : Ob} (h : (prmObs ρ σ hp)[j]? = some o) (hb : ∀ i, i < hp.length → pf σ i < hp.length) : j < hp.length ∧ ∃ o0, hp[pf σ j]? = some o0 ∧ o = o0.ren (pf ρ) := by
  unfold prmObs at h
  rw [List.getElem?_map] at h
  obtain ⟨q, hq, rfl⟩ := Option.map_eq_some_iff.1 h
  have hj : j < hp.length := by have := (List.getElem?_eq_some_iff.1 hq).1; simpa using this
  rw [List.getElem?_range hj] at hq
  cases hq
  refine ⟨hj, hp[pf σ j]'(hb j hj), List.getElem?_eq_getElem _, ?_⟩
  rw [List.getD_eq_getElem?_getD, List.getElem?_eq_getElem (hb j hj)]
  rfl
theorem rel_perm {Z : Env} {hp : List Ob} {M : Mp} {w : World} (ρ σ : List Nat) {n0 : Nat} (hok : prmB ρ σ n0 hp.length = true) (hr : RelH Z hp M w) :
    ∃ M2, RelH Z (prmObs ρ σ hp) M2 w ∧ own (prmObs ρ σ hp) M2 = own hp M ∧ (∀ i, i < M.l.length → M2.l[pf ρ i]? = M.l[i]?) ∧ M2.l.length = M.l.length ∧ M2.h = M.h ∧ ∀ i, i < n0 → pf ρ i = i := by
  simp only [prmB, Bool.and_eq_true, List.all_eq_true, List.mem_range] at hok
  obtain ⟨hok, h0⟩ := hok
  have lt1 : ∀ i, i < hp.length → pf ρ i < hp.length := fun i hi => nblt.1 (hok i hi).1.1.1
  have lt2 : ∀ i, i < hp.length → pf σ i < hp.length := fun i hi => nblt.1 (hok i hi).1.1.2
  have iv1 : ∀ i, i < hp.length → pf σ (pf ρ i) = i := fun i hi => Nat.eq_of_beq_eq_true (hok i hi).1.2
  have iv2 : ∀ i, i < hp.length → pf ρ (pf σ i) = i := fun i hi => Nat.eq_of_beq_eq_true (hok i hi).2
  have len : M.l.length = hp.length := hr.len
  let M2 : Mp := ⟨(List.range hp.length).map fun j => M.l.getD (pf σ j) none, M.h⟩
  have hM2 : ∀ j, j < hp.length → M2.l[j]? = M.l[pf σ j]? := fun j hj => by
    show ((List.range hp.length).map fun j => M.l.getD (pf σ j) none)[j]? = _
    rw [List.getElem?_map, List.getElem?_range hj]
    have h := lt2 j hj
    rw [← len] at h
    simp [List.getD_eq_getElem?_getD, List.getElem?_eq_getElem h]
  have hM : ∀ i, i < M.l.length → M2.l[pf ρ i]? = M.l[i]? := fun i hi => by
    rw [len] at hi
    rw [hM2 _ (lt1 i hi), iv1 i hi]
  have lv : ∀ o : Ob, (o.ren (pf ρ)).live = o.live := fun o => by cases o <;> rfl
  have bg : ∀ (o : Ob) al, o.ren (pf ρ) = .bag al ↔ o = .bag al := fun o al => by cases o <;> simp [Ob.ren]
  have get := fun {j : Nat} {o : Ob} (h : (prmObs ρ σ hp)[j]? = some o) => prmObs_get h lt2
  have mk : ∀ (i : Nat) (o : Ob), hp[i]? = some o → (prmObs ρ σ hp)[pf ρ i]? = some (o.ren (pf ρ)) := fun i o h => by
    have hi := (List.getElem?_eq_some_iff.1 h).1
    unfold prmObs
    rw [List.getElem?_map, List.getElem?_range (lt1 i hi)]
    simp only [Option.map_some]
    rw [iv1 i hi, List.getD_eq_getElem?_getD, h]
    rfl
  have hob : ∀ b, obOwn (prmObs ρ σ hp) M2 b ↔ obOwn hp M b := fun b => by
    constructor
    · rintro ⟨j, o, c, h1, h2, h3⟩
      obtain ⟨hj, o0, h4, rfl⟩ := get h1
      rw [hM2 j hj] at h3
      exact ⟨_, o0, c, h4, by rw [lv] at h2; exact h2, h3⟩
    · rintro ⟨i, o, c, h1, h2, h3⟩
      exact ⟨pf ρ i, _, c, mk i o h1, by rw [lv]; exact h2, (hM i (Mp.lt h3)).trans h3⟩
  have hbag : hasBag (prmObs ρ σ hp) ↔ hasBag hp := by
    constructor
    · rintro ⟨j, al, h⟩
      obtain ⟨_, o0, h4, h5⟩ := get h
      exact ⟨_, al, by rw [h4, (bg o0 al).1 h5.symm]⟩
    · rintro ⟨i, al, h⟩
      exact ⟨pf ρ i, al, mk i _ h⟩
  have hown : own (prmObs ρ σ hp) M2 = own hp M := own_eq (fun b => or_congr (hob b) (and_congr hbag Iff.rfl)) rfl hbag
  have hownZ : ownZ Z (prmObs ρ σ hp) M2 = ownZ Z hp M := ownZ_eq (fun b => by rw [hown]) rfl
  refine ⟨M2, ⟨by simp [M2, prmObs], fun j o m h1 h2 => ?_, fun b hb => ?_, hr.old, hr.amb, fun i j oi oj b c c' hi hj li lj mi mj => ?_, ⟨fun x hx => ?_, fun i j al al' hi hj => ?_⟩⟩, hown, hM, by simp [M2, len], rfl, fun i hi => Nat.eq_of_beq_eq_true (h0 i hi)⟩
  · obtain ⟨hj, o0, h4, rfl⟩ := get h1
    rw [hM2 j hj] at h2
    rw [hownZ]
    exact (hr.obj _ o0 m h4 h2).rens hM rfl
  · rw [hown] at hb; exact hr.apart b hb
  · obtain ⟨hi', o1, h4, rfl⟩ := get hi
    obtain ⟨hj', o2, h5, rfl⟩ := get hj
    rw [hM2 i hi'] at mi
    rw [hM2 j hj'] at mj
    rw [lv] at li lj
    have := hr.inj _ _ o1 o2 b c c' h4 h5 li lj mi mj
    rw [← iv2 i hi', ← iv2 j hj', this]
  · obtain ⟨h1, h2⟩ := hr.bags.tgs x hx
    exact ⟨h1, fun h => h2 ((hob _).1 h)⟩
  · obtain ⟨hi', o1, h4, e1⟩ := get hi
    obtain ⟨hj', o2, h5, e2⟩ := get hj
    have := hr.bags.one _ _ al al' (by rw [h4, (bg o1 al).1 e1.symm]) (by rw [h5, (bg o2 al').1 e2.symm])
    rw [← iv2 i hi', ← iv2 j hj', this]
/-! ### Each order -/
def ocat {α : Type} (f : Nat → Option (List α)) : List Nat → Option (List α)
  | [] => some []
  | i :: r => match f i with
    | some a => match ocat f r with
      | some b => some (a ++ b)
      | none => none
    | none => none
theorem ocat_mem {α : Type} {f : Nat → Option (List α)} : ∀ {r : List Nat} {l : List α}, ocat f r = some l → ∀ i ∈ r, ∃ a, f i = some a ∧ ∀ x ∈ a, x ∈ l
  | [], l, h, i, hi => by cases hi
  | j :: r, l, h, i, hi => by
    unfold ocat at h
    cases hf : f j with
    | none => rw [hf] at h; cases h
    | some a =>
      rw [hf] at h
      cases hr : ocat f r with
      | none => rw [hr] at h; cases h
      | some b =>
        rw [hr] at h
        cases h
        rcases List.mem_cons.1 hi with rfl | hi
        · exact ⟨a, hf, fun x hx => List.mem_append_left _ hx⟩
        · obtain ⟨c, h1, h2⟩ := ocat_mem hr i hi
          exact ⟨c, h1, fun x hx => List.mem_append_right _ (h2 x hx)⟩
/-- The cells of a struct that are told as they are. -/
def bxOf (bx : List (Nat × List Nat)) (k : Nat) : List Nat := match bx with
  | [] => []
  | e :: r => bif Nat.beq e.1 k then e.2 else bxOf r k
/-- A struct that is built. -/
def bldSt (Γ : TypeId → Option TI) (fr : Fr) (xs : List Nat) : Op → Option G
  | .build t parts => match Γ t with
    | some ⟨.struct fs, a, b, z⟩ => bif (fs.toList.all fun f => (Γ f.type).isSome) && (z.cells.toList.all (·.oneCell')) then
        (evParts fr parts.toList).bind fun pg => (fillG (placesG Γ fs) (zeroX xs ⟨.struct fs, a, b, z⟩) pg).map .agg
      else none
    | _ => none
  | _ => none
def xstep (Γ : TypeId → Option TI) (N : Nat) (hpL : List Ob) (ll : List Nat) (bx : List (Nat × List Nat)) (full : Array Oper) (k : Nat) (fr : Fr) (o : Oper) : Option Fr := match o with
  | ⟨some d, .build t parts, ty, pos, after, none⟩ => bif Nat.blt d N then (bldSt Γ (fr.only (Oper.looksAt full ⟨some d, .build t parts, ty, pos, after, none⟩)) (bxOf bx k) (.build t parts)).map fun g => (d, g) :: fr else none
  | _ => estep Γ N hpL ll [] full k fr o
def deadB (hpL : List Ob) (id : Nat) : Bool := match hpL[id]? with
  | some o => !o.live
  | none => true
def hst (Γ : TypeId → Option TI) (N : Nat) (hpL : List Ob) (full : Array Oper) (fr : Fr) (hp : List Ob) : Oper → Option (Fr × List Ob)
  | ⟨some d, .box t x, ty, pos, after, none⟩ => bif Nat.blt d N then ((fr.only (Oper.looksAt full ⟨some d, .box t x, ty, pos, after, none⟩)).ev x).bind fun g => (cellsG g).bind fun gs => bif gs.all G.one then some ((d, .ptr hp.length 0) :: fr, hp ++ [.box t gs]) else none else none
  | ⟨some d, .buildSlice t len parts, ty, pos, after, none⟩ => match Γ t with
    | some ⟨.slice e, _, _, _⟩ => match Γ e with
      | some i2 => bif Nat.blt d N && (i2.zero.cells.toList.all (·.oneCell')) && Nat.blt 0 i2.zero.cells.size && Nat.ble (len * i2.size) 16777216 && Nat.ble len 16777216 then
          (evParts (fr.only (Oper.looksAt full ⟨some d, .buildSlice t len parts, ty, pos, after, none⟩)) parts.toList).bind fun pg => (fillG (fun i => some (i * i2.size, i2.size)) (zerosG i2 len) pg).bind fun gs => (toDs gs).bind fun ds => some ((d, .sl hp.length len) :: fr, hp ++ [.row e i2.size len ds])
        else none
      | none => none
    | _ => none
  | ⟨none, .store t x y, ty, pos, after, none⟩ => match Γ t with
    | some i => match (fr.only (Oper.looksAt full ⟨none, .store t x y, ty, pos, after, none⟩)).ev x with
      | some (.ptr id off) => match hp[id]? with
        | some (.box tb gs) => ((fr.only (Oper.looksAt full ⟨none, .store t x y, ty, pos, after, none⟩)).ev y).bind fun g => (cellsG g).bind fun new =>
            bif new.all G.one && Nat.beq new.length i.size && Nat.ble (off + new.length) gs.length && deadB hpL id then some (fr, hp.set id (.box tb (setAt gs off new))) else none
        | _ => none
      | _ => none
    | none => none
  | _ => none
def anyR (Γ : TypeId → Option TI) (N : Nat) (hpL : List Ob) (ll hl : List Nat) (bx : List (Nat × List Nat)) (ops : Array Oper) : Nat → Array Bool → Fr → List Ob → Option (List (Fr × List Ob))
  | 0, listed, fr, hp => match Region.ready .any ops listed with
    | [] => some [(fr, hp)]
    | _ :: _ => none
  | fuel + 1, listed, fr, hp => match Region.ready .any ops listed with
    | [] => some [(fr, hp)]
    | i0 :: r => match (i0 :: r).find? fun i => !(inL hl i) with
      | some i => match ops[i]? with
        | none => none
        | some o => bif Region.free .any ops listed i then match xstep Γ N hpL ll bx ops i fr o with
          | some fr' => anyR Γ N hpL ll hl bx ops fuel (listed.setIfInBounds i true) fr' hp
          | none => none
          else none
      | none => ocat (fun i => match ops[i]? with
          | none => none
          | some o => match hst Γ N hpL ops fr hp o with
            | some s => anyR Γ N hpL ll hl bx ops fuel (listed.setIfInBounds i true) s.1 s.2
            | none => none) (i0 :: r)
section
variable {P : Program} {Γ : TypeId → Option TI} {F N : Nat} {Q : GPost} {fr fr' : Fr} {hp hp' hpL : List Ob} {ks : List Kt} {ll hl : List Nat} {bx : List (Nat × List Nat)}
variable {ops : Array Oper}
theorem bldSt_ok (hΓ : TOK P Γ) {d : Tmp} {t : TypeId} {parts : Array (Nat × Operand)} {ty : TypeId} {pos : String} {after : Array Edge} {gd' : Option (Nat × Bool)} {g : G} {xs : List Nat} (h : bldSt Γ fr xs (.build t parts) = some g) : OpP P N ⟨some d, .build t parts, ty, pos, after, gd'⟩ fr hp g := by
  simp only [bldSt] at h
  split at h
  · rename_i fs a b z h1
    cases hc : ((fs.toList.all fun f => (Γ f.type).isSome) && (z.cells.toList.all (·.oneCell'))) with
    | false => rw [hc] at h; cases h
    | true =>
      rw [hc] at h
      simp only [Bool.and_eq_true] at hc
      simp only [cond_true] at h
      obtain ⟨pg, hp1, h2⟩ := Option.bind_eq_some_iff.1 h
      obtain ⟨gs, hf, rfl⟩ := Option.map_eq_some_iff.1 h2
      exact op_buildX hΓ xs h1 rfl hc.1 hc.2 hp1 hf
  · cases h
theorem noNew_nil {k : Nat} : ∀ j, ¬ NewOp (inL []) k j := fun j ⟨_, h⟩ => by simp [inL] at h
theorem xstep_ye (hΓ : TOK P Γ) {k : Nat} {o : Oper} {hp : List Ob} (h : xstep Γ N hpL ll bx ops k fr o = some fr') : ∃ x g, YE P N hpL (inL ll) (inL hl) (inL []) ops k o fr.get hp x g hp ∧ fr'.get = FF.put fr.get x g := by
  unfold xstep at h
  split at h
  · rename_i d t parts ty pos after
    cases hd : Nat.blt d N with
    | false => rw [hd] at h; cases h
    | true =>
      rw [hd] at h
      obtain ⟨g, hg, rfl⟩ := Option.map_eq_some_iff.1 h
      refine ⟨some d, g, .inl ⟨⟨fun d' h => by cases h; exact nblt.1 hd, .inr ⟨.inl rfl, _, fun t g' h => Fr.only_get h, fun hp _ => qte_of_qt (qt_p (bldSt_ok hΓ hg))⟩⟩, rfl, rfl, noNew_nil⟩, ?_⟩
      rw [Fr.get_cons]
      rfl
  · have key : GE P N hpL ll hl [] ops (fun fr'' hp'' => fr''.get = fr'.get ∧ hp'' = hp) k [o] fr hp := estep_ok hΓ h (ge_nil ⟨rfl, rfl⟩)
    obtain ⟨x, g, hp', h1, fr'', h2, h3, rfl⟩ := key
    exact ⟨x, g, h1, by rw [← h3, h2]⟩
theorem stays_app {o : Ob} (h : Stays hpL hp) : Stays hpL (hp ++ [o]) := fun i q h1 h2 => by
  have := h i q h1 h2
  rw [List.getElem?_append_left (List.getElem?_eq_some_iff.1 this).1]
  exact this
theorem stays_set {o : Ob} {id : Nat} (hd : deadB hpL id = true) (h : Stays hpL hp) : Stays hpL (hp.set id o) := fun i q h1 h2 => by
  have hne : id ≠ i := fun e => by
    subst e
    unfold deadB at hd
    rw [h1] at hd
    simp [h2] at hd
  rw [List.getElem?_set_ne hne]
  exact h i q h1 h2
theorem ops_litRow (hΓ : TOK P Γ) {d : Tmp} {ty : TypeId} {pos : String} {after : Array Edge} {gd' : Option (Nat × Bool)} {t e : TypeId} {len : Nat} {i1 i2 : TI} {parts : Array (Nat × Operand)} {pg : List (Nat × G)} {gs : List G} {ds : List D} (h1 : Γ t = some i1) (h1' : i1.desc = .slice e) (h2 : Γ e = some i2)
    (hz : (i2.zero.cells.toList.all (·.oneCell')) = true) (hz' : Nat.blt 0 i2.zero.cells.size = true) (hlen : Nat.ble (len * i2.size) 16777216 = true) (hlen' : Nat.ble len 16777216 = true) (hp' : evParts fr parts.toList = some pg) (hf : fillG (fun i => some (i * i2.size, i2.size)) (zerosG i2 len) pg = some gs) (hds : toDs gs = some ds) :
    OpS P N ⟨some d, .buildSlice t len parts, ty, pos, after, gd'⟩ fr hp (.sl hp.length len) (hp ++ [.row e i2.size len ds]) := fun Z w M a hr => by
  obtain ⟨cs, r1, r2, r3, r4⟩ := run_buildSlice hΓ hr h1 h1' h2 hz hz' hlen hp' hf
  have hgs := toDs_eq hds
  have hlen'' : len ≤ maxLen := by have := Nat.le_of_ble_eq_true hlen'; simp only [maxLen]; omega
  have hdl : ds.length = len * i2.size := by rw [← r3, hgs]; simp
  obtain ⟨f1, f2, f3⟩ := push_ok hr.heap (.row e i2.size len ds) cs e len fun w' O' hst hh => ⟨hdl, cs, hh, by rw [r2, r3], Nat.le_refl _, hlen'', fun j dd hj => by
    obtain ⟨v, e1, e2, e3⟩ := r4 j (.d dd) (by rw [hgs, List.getElem?_map, hj]; rfl)
    cases e3 with
    | d h => exact ⟨v, e1, h.step hst⟩⟩
  refine ⟨_, _, _, by simp [execOp, r1]; rfl, f1, .sl (c := len) ?_ (Nat.le_refl _) hlen'', f2, f3⟩
  rw [← hr.heap.len]; simp
/-- A heavy step: it is one, and what is read stays. -/
theorem hst_ye (hΓ : TOK P Γ) {k : Nat} {o : Oper} {hp : List Ob} {s : Fr × List Ob} (hk : inL hl k = true) (h : hst Γ N hpL ops fr hp o = some s) : (∃ x g, YE P N hpL (inL ll) (inL hl) (inL []) ops k o fr.get hp x g s.2 ∧ s.1.get = FF.put fr.get x g) ∧ (Stays hpL hp → Stays hpL s.2) := by
  unfold hst at h
  split at h
  · rename_i d t y ty pos after
    cases hd : Nat.blt d N with
    | false => rw [hd] at h; cases h
    | true =>
      rw [hd] at h
      simp only [cond_true] at h
      obtain ⟨g, hg, h2⟩ := Option.bind_eq_some_iff.1 h
      obtain ⟨gs, hgs, h3⟩ := Option.bind_eq_some_iff.1 h2
      cases ho : gs.all G.one with
      | false => rw [ho] at h3; cases h3
      | true =>
        rw [ho] at h3
        cases h3
        refine ⟨⟨some d, .ptr hp.length 0, .inr (.inr (.inl ⟨hk, ⟨fun d' h => by cases h; exact nblt.1 hd, .inl rfl, by simp, _, fun t g' h => Fr.only_get h, qte_s (ops_box hg hgs ho)⟩, rfl, noNew_nil, fun _ => stays_app⟩)), ?_⟩, stays_app⟩
        rw [Fr.get_cons]
        rfl
  · rename_i d t len parts ty pos after
    split at h
    · rename_i e a b z h1
      split at h
      · rename_i i2 h2
        cases hc : (Nat.blt d N && (i2.zero.cells.toList.all (·.oneCell')) && Nat.blt 0 i2.zero.cells.size && Nat.ble (len * i2.size) 16777216 && Nat.ble len 16777216) with
        | false => rw [hc] at h; cases h
        | true =>
          rw [hc] at h
          simp only [Bool.and_eq_true] at hc
          simp only [cond_true] at h
          obtain ⟨⟨⟨⟨c1, c2⟩, c3⟩, c4⟩, c5⟩ := hc
          obtain ⟨pg, hp1, h3⟩ := Option.bind_eq_some_iff.1 h
          obtain ⟨gs, hf, h4⟩ := Option.bind_eq_some_iff.1 h3
          obtain ⟨ds, hds, h5⟩ := Option.bind_eq_some_iff.1 h4
          cases h5
          refine ⟨⟨some d, .sl hp.length len, .inr (.inr (.inl ⟨hk, ⟨fun d' h => by cases h; exact nblt.1 c1, .inl rfl, by simp, _, fun t g' h => Fr.only_get h, qte_s (ops_litRow hΓ h1 rfl h2 c2 c3 c4 c5 hp1 hf hds)⟩, rfl, noNew_nil, fun _ => stays_app⟩)), ?_⟩, stays_app⟩
          rw [Fr.get_cons]
          rfl
      · cases h
    · cases h
  · rename_i t x y ty pos after
    split at h
    · rename_i i h1
      split at h
      · rename_i id off hx
        split at h
        · rename_i tb gs ho
          obtain ⟨g, hy, h2⟩ := Option.bind_eq_some_iff.1 h
          obtain ⟨new, hg, h3⟩ := Option.bind_eq_some_iff.1 h2
          cases hc : (new.all G.one && Nat.beq new.length i.size && Nat.ble (off + new.length) gs.length && deadB hpL id) with
          | false => rw [hc] at h3; cases h3
          | true =>
            rw [hc] at h3
            simp only [Bool.and_eq_true] at hc
            cases h3
            obtain ⟨⟨⟨c1, c2⟩, c3⟩, c4⟩ := hc
            exact ⟨⟨none, .junk, .inr (.inr (.inl ⟨hk, ⟨(fun d' h => by cases h), .inl rfl, by simp, _, fun t g' h => Fr.only_get h, qte_u (opu_store hΓ h1 hx ho hy hg c1 c2 c3)⟩, rfl, noNew_nil, fun _ => stays_set c4⟩)), rfl⟩, stays_set c4⟩
        · cases h
      · cases h
    · cases h
  · cases h
theorem ord0_nil : Ord0 .any ops (inL ll) (inL hl) (inL []) where
  lb i j _ h := by simp [inL] at h
  nb i j h := absurd h (noNew_nil j)
  nd i j _ _ h := absurd h (noNew_nil j)
  n1 i j _ h := absurd h (noNew_nil j)
  n2 i _ j h := absurd h (noNew_nil j)
theorem anyR_ok (hΓ : TOK P Γ) {QF : FF → List Ob → Prop} : ∀ (fuel : Nat) (listed : Array Bool) (fr : Fr) (hp : List Ob) (leaves : List (Fr × List Ob)), listed.size = ops.size → Shut .any ops listed → Stays hpL hp → anyR Γ N hpL ll hl bx ops fuel listed fr hp = some leaves → (∀ s ∈ leaves, QF s.1.get s.2) →
    anyE P N hpL (inL ll) (inL hl) (inL []) .any ops QF fuel listed fr.get hp
  | 0, listed, fr, hp, leaves, hsz, hsh, hst, h, hq => by
    unfold anyR at h
    split at h
    · rename_i hr
      cases h
      exact ⟨hr, hq _ List.mem_cons_self⟩
    · cases h
  | fuel + 1, listed, fr, hp, leaves, hsz, hsh, hst, h, hq => by
    unfold anyR at h
    split at h
    · rename_i hr
      cases h
      exact ⟨fun _ => hq _ List.mem_cons_self, fun i hi => by rw [hr] at hi; cases hi⟩
    · rename_i i0 r hr
      split at h
      · rename_i i hfi
        have hmem : i ∈ Region.ready .any ops listed := by rw [hr]; exact List.mem_of_find?_eq_some hfi
        have hlight : inL hl i = false := by have := List.find?_some hfi; simpa using this
        split at h
        · cases h
        · rename_i o ho
          cases hf : Region.free .any ops listed i with
          | false => rw [hf] at h; cases h
          | true =>
            rw [hf] at h
            simp only [cond_true] at h
            split at h
            · rename_i fr' hx
              obtain ⟨x, g, hy, hg⟩ := xstep_ye (P := P) (hl := hl) hΓ hx
              have hrec := anyR_ok hΓ fuel (listed.setIfInBounds i true) fr' hp leaves (by simpa using hsz) (shut_set hsh hmem) hst h hq
              rw [hg] at hrec
              exact anyE_first ord0_nil (fun hv => by rw [hlight] at hv; cases hv) ho fuel listed fr.get hp hp hsz hsh (fun hv => by rw [hlight] at hv; cases hv) (fun _ => hst) (Region.free_spec ho hf) hmem hy hrec
            · cases h
      · rename_i hnone
        refine ⟨(fun h0 => by rw [hr] at h0; cases h0), fun i hi => ?_⟩
        rw [hr] at hi
        obtain ⟨a, ha, hsub⟩ := ocat_mem h i hi
        have hheavy : inL hl i = true := by
          have := List.find?_eq_none.1 hnone i hi
          simpa using this
        have hmem : i ∈ Region.ready .any ops listed := by rw [hr]; exact hi
        unfold gOpE
        split at ha
        · cases ha
        · rename_i o ho
          split at ha
          · rename_i s hs
            obtain ⟨⟨x, g, hy, hg⟩, hss⟩ := hst_ye (P := P) (ll := ll) hΓ hheavy hs
            simp only [ho]
            have hrec := anyR_ok hΓ fuel (listed.setIfInBounds i true) s.1 s.2 a (by simpa using hsz) (shut_set hsh hmem) (hss hst) ha (fun q hq' => hq q (hsub q hq'))
            rw [hg] at hrec
            exact ⟨x, g, s.2, hy, fun _ => hst, hrec⟩
          · cases ha
def LeafOk (n0 : Nat) (s : Fr × List Ob) (p : List Nat × List Nat) (fr0 : Fr) (hp0 : List Ob) : Prop :=
  prmB p.1 p.2 n0 s.2.length = true ∧ prmObs p.1 p.2 s.2 = hp0 ∧ fr0.map (fun e => (Fr.get s.1 e.1).map (G.ren (pf p.1))) = fr0.map fun e => some e.2
def leafN (n0 : Nat) (T : List Nat) (s : Fr × List Ob) (p : List Nat × List Nat) : Bool × List (Option G) × List Ob := (prmB p.1 p.2 n0 s.2.length, T.map fun t => (Fr.get s.1 t).map (G.ren (pf p.1)), prmObs p.1 p.2 s.2)
def leavesN (n0 : Nat) (T : List Nat) : List (Fr × List Ob) → List (List Nat × List Nat) → List (Bool × List (Option G) × List Ob)
  | [], _ => []
  | s :: ss, p :: ps => leafN n0 T s p :: leavesN n0 T ss ps
  | _ :: _, [] => [(false, [], [])]
theorem leaves_ok {n0 : Nat} {fr0 : Fr} {hp0 : List Ob} : ∀ {ss : List (Fr × List Ob)} {ps : List (List Nat × List Nat)}, (∀ x ∈ leavesN n0 (fr0.map (·.1)) ss ps, x = (true, fr0.map (fun e => some e.2), hp0)) → ∀ s ∈ ss, ∃ p, LeafOk n0 s p fr0 hp0
  | [], _, _, s, hs => by cases hs
  | s0 :: ss, p :: ps, h, s, hs => by
    rcases List.mem_cons.1 hs with rfl | hs
    · have := h _ List.mem_cons_self
      unfold leafN at this
      have h1 := Prod.mk.inj this
      have h2 := Prod.mk.inj h1.2
      refine ⟨p, h1.1, h2.2, ?_⟩
      rw [← h2.1, List.map_map]
      rfl
    · exact leaves_ok (fun x hx => h x (List.mem_cons_of_mem _ hx)) s hs
  | _ :: _, [], h, _, _ => by
    have := h _ List.mem_cons_self
    cases this
theorem fr_map {f : Nat → Option G} : ∀ {fr0 : Fr} {t : Nat} {g : G}, fr0.map (fun e => f e.1) = fr0.map (fun e => some e.2) → fr0.get t = some g → f t = some g
  | [], t, g, _, h => by cases h
  | (t0, g0) :: r, t, g, hm, h => by
    simp only [List.map_cons, List.cons.injEq] at hm
    simp only [Fr.get] at h
    cases hb : Nat.beq t0 t with
    | true =>
      rw [hb] at h
      cases h
      obtain rfl := Nat.eq_of_beq_eq_true hb
      exact hm.1
    | false => rw [hb] at h; exact fr_map hm.2 h
theorem ew_drawR (hΓ : TOK P Γ) {id : Nat} {l : List Oper} (bx : List (Nat × List Nat)) (ps : List (List Nat × List Nat)) {fr0 : Fr} {hp0 : List Ob} (hm : P.follows .mixedOrders = true) (hR : (anyR Γ N hpL ll hl bx l.toArray l.length (Array.replicate l.length false) fr hp).map (fun ls => leavesN hp.length (fr0.map (·.1)) ls ps) = some (List.replicate ps.length (true, fr0.map (fun e => some e.2), hp0))) (hst : StaysL hpL hp) (hF : F ≤ hp.length) (hk : Q .normal fr0 hp0) : EW P F N (.region id l.toArray true) Q fr hp := by
  obtain ⟨leaves, hR, hL0⟩ := Option.map_eq_some_iff.1 hR
  have hL := leaves_ok (n0 := hp.length) (fr0 := fr0) (hp0 := hp0) (ss := leaves) (ps := ps) fun x hx => by
    rw [hL0] at hx
    exact List.eq_of_mem_replicate hx
  intro Z w0 O0 M0 w M a hs ha hr
  have hdr : Stp w (own hp M) w.drew (own hp M) := .mk' (Nat.le_refl _) (fun _ _ _ => rfl) (fun _ _ h => h) rfl rfl rfl rfl (fun g => g) fun _ _ => rfl
  have hr' : RelH Z hp M w.drew := by
    refine ⟨hr.heap.len, fun i o m h1 h2 => ?_, hr.heap.apart, hr.heap.old, hr.heap.amb_stp hdr, hr.heap.inj, hr.heap.bags.mono rfl (Nat.le_refl _) (fun _ _ h => h) (fun _ _ h => h)⟩
    have := hr.heap.obj i o m h1 h2
    exact this.move (k := M.l.length) (stp_z Z hdr) (fun _ _ => rfl) this.bel (fun _ _ _ _ => rfl) (fun _ _ => ⟨rfl, fun _ _ => rfl⟩)
  have hany := anyR_ok (P := P) (N := N) (ops := l.toArray) (hpL := hpL) (ll := ll) (hl := hl) (bx := bx) hΓ (QF := fun F hp => ∃ fr' : Fr, fr'.get = F ∧ (fr', hp) ∈ leaves) l.length (Array.replicate l.toArray.size false) fr hp leaves (by simp) (fun k o h => by
      rcases Nat.lt_or_ge k l.toArray.size with h' | h'
      · simp at h' h; simp [h'] at h
      · simp at h' h; simp [h'] at h) (stays_mk hst) (by simpa using hR) fun s hs => ⟨s.1, rfl, hs⟩
  refine wp_region_any hm (wpAny_of_anyE (Z := Z) (F0 := hp.length) (M0 := M) (w0 := w0) (O0 := O0) (N := N) (hpL := hpL) (light := inL ll) (heavy := inL hl) (brk := inL []) (QF := fun F hp => ∃ fr' : Fr, fr'.get = F ∧ (fr', hp) ∈ leaves) ord0_nil ?_ _ _ fr.get hp M a w.drew [] (RelF.zB0 ⟨hr', fun t g hg => let ⟨v, e1, e2⟩ := hr.fr t g hg; ⟨v, e1, e2.step (stp_z Z hdr) (fun _ _ => rfl)⟩, hr.size, hr.defers⟩) ⟨by simp, fun i j _ hi _ => (by rw [rep_false] at hi; cases hi), fun p hp => by cases hp⟩ (by simp) (fun k o hk => by rw [rep_false] at hk; cases hk) (hs.trans hdr) ⟨Nat.le_of_eq hr.heap.len.symm, fun _ _ => rfl⟩ (Nat.le_refl _) (by simpa using hany))
  rintro F' a' w' hp' M' ⟨fr', rfl, hq⟩ h1 h2 h3 h4
  obtain ⟨p, hb, ho, hf⟩ := hL _ hq
  simp only at hb ho hf
  obtain ⟨M2, r1, r2, r3, r4, r5, r6⟩ := rel_perm (n0 := hp.length) p.1 p.2 hb h1.heap
  rw [ho] at r1 r2
  have hown : ownZ Z hp0 M2 = ownZ Z hp' M' := ownZ_eq (fun b => by rw [r2]) r5
  refine ⟨fr0, hp0, M2, hk, ⟨r1, fun t g hg => ?_, h1.size, h1.defers⟩, by rw [r2]; exact h2, ?_⟩
  · have := fr_map (f := fun t => (Fr.get fr' t).map (G.ren (pf p.1))) hf hg
    obtain ⟨g0, e1, rfl⟩ := Option.map_eq_some_iff.1 this
    obtain ⟨v, e2, e3⟩ := h1.fr t g0 e1
    rw [hown]
    exact ⟨v, e2, e3.ren r3⟩
  · refine ⟨by rw [r4]; exact Nat.le_trans hF h3.le, fun i hi => ?_⟩
    have hi' : i < hp.length := by omega
    have e := r3 i (Nat.lt_of_lt_of_le hi' h3.le)
    rw [r6 i hi'] at e
    rw [e, h3.eq i hi', ha.eq i hi]
theorem j_drawR (hΓ : TOK P Γ) {id : Nat} {ops : Array Oper} (hpL : List Ob) (ll hl : List Nat) (bx : List (Nat × List Nat)) (ps : List (List Nat × List Nat)) (fr0 : Fr) (hp0 : List Ob) (hm : P.follows .mixedOrders = true) (hR : (anyR Γ N hpL ll hl bx ops ops.toList.length (Array.replicate ops.toList.length false) fr hp).map (fun ls => leavesN hp.length (fr0.map (·.1)) ls ps) = some (List.replicate ps.length (true, fr0.map (fun e => some e.2), hp0))) (hst : StaysL hpL hp) (hF : F ≤ hp.length) (k : St.holds P F N Q (.fin .normal ks) fr0 hp0) : St.holds P F N Q (.code (.region id ops true) ks) fr hp := by
  have := ew_drawR (P := P) (F := F) (N := N) (Q := stk P F N Q ks) (fr := fr) (hp := hp) (hpL := hpL) (ll := ll) (hl := hl) (id := id) (l := ops.toList) hΓ bx ps (fr0 := fr0) (hp0 := hp0) hm
  simp only [Array.toArray_toList] at this
  exact this hR hst hF k
/-! ### A nil slice in a box becomes a row -/
theorem heap_retell {Z : Env} {M : Mp} {w : World} {id : Nat} {t : TypeId} {gs gs' : List G} (hr : RelH Z hp M w) (ho : hp[id]? = some (.box t gs)) (hl : gs'.length = gs.length)
    (hc : ∀ (j : Nat) (g' : G), gs'[j]? = some g' → ∃ g, gs[j]? = some g ∧ ∀ v, VR w (ownZ Z hp M) M g v → VR w (ownZ Z hp M) M g' v) : RelH Z (hp.set id (.box t gs')) M w ∧ own (hp.set id (.box t gs')) M = own hp M := by
  have hid : id < hp.length := (List.getElem?_eq_some_iff.1 ho).1
  have get : ∀ (i : Nat) (o : Ob), (hp.set id (.box t gs'))[i]? = some o → (i = id ∧ o = .box t gs') ∨ (i ≠ id ∧ hp[i]? = some o) := fun i o h => by
    by_cases hi : i = id
    · subst hi; rw [List.getElem?_set_self hid] at h; cases h; exact .inl ⟨rfl, rfl⟩
    · rw [List.getElem?_set_ne (Ne.symm hi)] at h; exact .inr ⟨hi, h⟩
  have hob : ∀ b, obOwn (hp.set id (.box t gs')) M b ↔ obOwn hp M b := fun b => by
    constructor
    · rintro ⟨i, o, c, h1, h2, h3⟩
      rcases get i o h1 with ⟨rfl, rfl⟩ | ⟨_, h⟩
      · exact ⟨_, _, c, ho, rfl, h3⟩
      · exact ⟨i, o, c, h, h2, h3⟩
    · rintro ⟨i, o, c, h1, h2, h3⟩
      by_cases hi : i = id
      · subst hi; exact ⟨i, _, c, List.getElem?_set_self hid, rfl, h3⟩
      · exact ⟨i, o, c, by rw [List.getElem?_set_ne (Ne.symm hi)]; exact h1, h2, h3⟩
  have hbag : hasBag (hp.set id (.box t gs')) ↔ hasBag hp := by
    constructor
    · exact fun g => g.of (bag_set rfl)
    · rintro ⟨i, al, h⟩
      refine ⟨i, al, ?_⟩
      have : i ≠ id := fun e => by subst e; rw [ho] at h; cases h
      rw [List.getElem?_set_ne (Ne.symm this)]; exact h
  have hown : own (hp.set id (.box t gs')) M = own hp M := own_eq (fun b => or_congr (hob b) (and_congr hbag Iff.rfl)) rfl hbag
  have hownZ : ownZ Z (hp.set id (.box t gs')) M = ownZ Z hp M := ownZ_eq (fun b => by rw [hown]) rfl
  refine ⟨⟨by simp [hr.len], fun i o m h1 h2 => ?_, fun b hb => hr.apart b (by rw [hown] at hb; exact hb), hr.old, hr.amb, fun i j oi oj b c c' hi hj li lj mi mj => ?_, hr.bags.mono rfl (Nat.le_refl _) (fun b _ => (hob b).1) (bag_set rfl)⟩, hown⟩
  · rw [hownZ]
    rcases get i o h1 with ⟨rfl, rfl⟩ | ⟨_, h⟩
    · have := hr.obj i _ m ho h2
      match m, this with
      | some (b, c), ⟨cs, e1, e2, e3⟩ =>
        refine ⟨cs, e1, by rw [hl]; exact e2, fun j g' hg' => ?_⟩
        obtain ⟨g, hg, hv⟩ := hc j g' hg'
        obtain ⟨v, f1, f2, f3⟩ := e3 j g hg
        exact ⟨v, f1, f2, hv v f3⟩
    · exact hr.obj i o m h h2
  · have key : ∀ (i : Nat) (o : Ob), (hp.set id (.box t gs'))[i]? = some o → o.live = true → ∃ o', hp[i]? = some o' ∧ o'.live = true := fun i o h hl => by
      rcases get i o h with ⟨rfl, rfl⟩ | ⟨_, h⟩
      · exact ⟨_, ho, rfl⟩
      · exact ⟨o, h, hl⟩
    obtain ⟨o1, k1, k2⟩ := key i oi hi li
    obtain ⟨o2, k3, k4⟩ := key j oj hj lj
    exact hr.inj i j o1 o2 b c c' k1 k3 k2 k4 mi mj
theorem j_nilBox {c : Code} (id k : Nat) (te : TypeId) (sz : Nat) {t : TypeId} {gs : List G} (hp2 : List Ob) (ho : hp[id]? = some (.box t gs)) (hk : gs[k]? = some (.d (.v (.slice none 0 0)))) (hhp : hp.set id (.box t (gs.set k (.sl hp.length 0))) ++ [.row te sz 0 []] = hp2) (hF : F ≤ hp.length)
    (kk : St.holds P F N Q (.code c ks) fr hp2) : St.holds P F N Q (.code c ks) fr hp := by
  subst hhp
  intro Z w0 O0 M0 w M a hs ha hr
  obtain ⟨k1, k2, k3⟩ := heap_nilRow te sz hr.heap
  have hid : id < hp.length := (List.getElem?_eq_some_iff.1 ho).1
  have hlt : k < gs.length := (List.getElem?_eq_some_iff.1 hk).1
  obtain ⟨r1, r2⟩ := heap_retell (gs' := gs.set k (.sl hp.length 0)) k1 (by rw [List.getElem?_append_left hid]; exact ho) (by simp) fun j g' hg' => by
    by_cases hjk : k = j
    · subst hjk
      rw [List.getElem?_set_self hlt] at hg'
      cases hg'
      refine ⟨_, hk, fun v hv => ?_⟩
      rw [vr_v hv]
      exact .slnil (by rw [← hr.heap.len]; simp)
    · rw [List.getElem?_set_ne hjk] at hg'
      exact ⟨g', hg', fun _ h => h⟩
  rw [List.set_append_left _ _ hid] at r1 r2
  refine kk Z w0 O0 M0 w _ a (hs.trans (by rw [r2]; exact k2)) (ha.trans k3 hF) ⟨r1, fun t' g hg => ?_, hr.size, hr.defers⟩
  obtain ⟨v, e1, e2⟩ := hr.fr t' g hg
  have hz : ownZ Z (hp.set id (.box t (gs.set k (.sl hp.length 0))) ++ [.row te sz 0 []]) (M.app [none]) = ownZ Z (hp ++ [.row te sz 0 []]) (M.app [none]) := ownZ_eq (fun b => by rw [r2]) rfl
  rw [hz]
  exact ⟨v, e1, e2.step (stp_z Z k2) fun i hi => List.getElem?_append_left hi⟩
/-! ### A row is lent, in a region that draws -/
variable {fop : Operand} {args : Array Operand} {ts : Array TypeId} {f : FuncId} {g1 g2 gs gs' : List G}
theorem qte_lend {dst : Option Tmp} {ty : TypeId} {pos : String} {after : Array Edge} {gd' : Option (Nat × Bool)} {r : G} (hcl : Callable P f) (hc : Pure P f gs r) (hf : fr.ev fop = some (.fn (.func f) g1 g2)) (ha : args.toList.mapM fr.ev = some gs') (hgs : (g1 ++ gs' ++ g2).map (G.lend hp) = gs)
    (hbl : G.belAll 0 gs = true) (hpl : r.plain = true) : QtE P N ⟨dst, .call ⟨.value fop, args, ts⟩, ty, pos, after, gd'⟩ fr hp r hp := fun Z w M a hr K Q hK => by
  subst hgs
  obtain ⟨vs, hrun, l, rr⟩ := run_call (ts := ts) (ty := ty) (pos := pos) (after := after) (c := hp) hr hf ha hcl dst
  have hrun' : (execOp a.eval ⟨dst, .call ⟨.value fop, args, ts⟩, ty, pos, after, gd'⟩).run P w = .ok (.enter f vs) w := hrun
  unfold Oper.wp
  rw [hrun', Oper.upon_enter]
  refine (EC.lend hc hbl hpl Z w M vs hr.heap l rr).mono ?_
  rintro e w' ⟨v, g, hp', M', rfl, ⟨rfl, rfl⟩, h1, h2, h3, h4⟩
  exact hK v w' M' h1 h2 h3 h4
/-- A call that is lent rows and gives a new row of plain cells. -/
theorem EC.lendRow {te : TypeId} {sz n : Nat} {ds : List D} (h : EC P f (gs.map (G.lend hp)) [] fun g hp' => g = .sl 0 n ∧ hp' = [.row te sz n ds]) (hbl : G.belAll 0 (gs.map (G.lend hp)) = true) (hpl : ∀ d ∈ ds, ∃ v, d = .v v) :
    EC P f gs hp fun g hp' => g = .sl hp.length n ∧ hp' = hp ++ [.row te sz n ds] := by
  intro Z w M vs hrel hsz hvs
  let Z0 : Env := ⟨fun b => (own hp M b ∨ Z.z b) ∧ ¬ ((lentB hp M gs b) ∧ own hp M b), fun b => ownZ Z hp M b ∧ ¬ ((lentB hp M gs b) ∧ own hp M b), fun b h => ⟨h.1.imp id (Z.hv b), h.2⟩, fun w' => Z.x w', fun w1 w2 hk hx => Z.st w1 w2 (fun b hb => hk b ⟨.inr hb, fun ⟨_, h⟩ => hrel.apart b h hb⟩) hx, Z.ax⟩
  have hO0 : ∀ b, ownZ Z0 [] ⟨[], M.h⟩ b → ownZ Z hp M b := fun b hb => by
    rcases hb with h1 | hb
    · exact absurd h1 own_nil
    · exact hb.1
  have h0 : RelH Z0 [] ⟨[], M.h⟩ w := ⟨rfl, fun i o m h => by simp at h, fun b h => absurd h own_nil, fun b hb => by
    rcases hb.1 with h | h
    · exact hrel.block_lt h
    · exact hrel.old b h, hrel.amb, fun i j oi oj b c c' h => by simp at h, ⟨fun x hx => ⟨(hrel.bags.tgs x hx).1, obOwn_nil⟩, fun i j al al' h => by simp at h⟩⟩
  have hst : Stp w (ownZ Z hp M) w (ownZ Z0 [] ⟨[], M.h⟩) := .still (fun b _ hb => hO0 b hb) rfl (fun g => g)
  have key : ∀ (j : Nat) (g : G) (v : Value), gs[j]? = some g → vs[j]? = some v → (g.lend hp).bel 0 = true → VR w (ownZ Z0 [] ⟨[], M.h⟩) ⟨[], M.h⟩ (g.lend hp) v := fun j g v hg hv hb => by
    have h1 := hvs j g v hg hv
    by_cases hsl : ∃ id n, g = .sl id n ∧ ∃ t sz m ds, hp[id]? = some (.row t sz m ds)
    · obtain ⟨id, n, rfl, t, sz, m, ds, ho⟩ := hsl
      have e : (G.sl id n).lend hp = .d (.ro n ds) := by simp [G.lend, ho]
      rw [e]
      cases h1 with
      | slnil hM =>
        have := hrel.obj id _ _ ho hM
        obtain ⟨rfl, _⟩ := this
        exact .d .nil
      | sl hM hn hm =>
        rename_i b c
        obtain ⟨_, cs, hblk, hcs, hnc, hcm, hdata⟩ := hrel.obj id _ _ ho hM
        have hown : own hp M b := .inl ⟨id, _, c, ho, rfl, hM⟩
        have hcell : ∀ j d, ds[j]? = some d → w.cell? ⟨b, 0 + j, none⟩ = some (cs.getD j undef) := fun j d hd => by
          obtain ⟨u, e1, _⟩ := hdata j d hd
          rw [Nat.zero_add, cell_of_row w b j cs _ _ hblk]
          simp [e1]
        refine .d (.ro n ds b 0 c (fun j => cs.getD j undef) (hrel.block_lt hown) ?_ hn hm hcell (fun j d hd => ?_))
        · refine fun _ _ hbad => absurd hbad ?_
          rintro (h1 | hb)
          · exact own_nil h1
          · exact hb.2 ⟨⟨j, id, n, c, hg, hM⟩, hown⟩
        · obtain ⟨u, e1, e2⟩ := hdata j d hd
          simpa [e1] using e2.step hst
    · have e : g.lend hp = g := by
        cases g <;> try rfl
        rename_i id n
        simp only [G.lend]
        split
        · rename_i t sz m ds ho
          exact absurd ⟨id, n, rfl, t, sz, m, ds, ho⟩ hsl
        · rfl
      rw [e] at hb ⊢
      exact h1.move (k := 0) hst (fun i hi => by omega) hb
  refine (h Z0 w ⟨[], M.h⟩ vs h0 (by simpa using hsz) (fun j g v hg hv => ?_)).mono ?_
  · rw [List.getElem?_map] at hg
    obtain ⟨g0, hg0, rfl⟩ := Option.map_eq_some_iff.1 hg
    exact key j g0 v hg0 hv (G.belAll_spec.1 hbl j _ (by rw [List.getElem?_map, hg0]; rfl))
  · rintro e w' ⟨v, g, hp', M', rfl, ⟨rfl, rfl⟩, h1, h2, h3, h4⟩
    have hkeep : ∀ b, b < w.heap.size → w'.heap[b]? = w.heap[b]? := fun b hb => h3.keep b hb own_nil
    have hs : Stp w (own hp M) w' (own hp M) := .mk' h3.size (fun b hb _ => hkeep b hb) (fun _ _ h => h) h3.os h3.tape h3.output rfl (fun g => g) fun x hx => hkeep _ (hrel.bags.tgs x hx).1
    have hl1 : M'.l.length = 1 := h1.len
    obtain ⟨x, hx⟩ : ∃ x, M'.l = [x] := by
      match hM : M'.l, hl1 with
      | [x], _ => exact ⟨x, rfl⟩
    have hx0 : M'.l[0]? = some x := by rw [hx]; rfl
    have hrow := h1.obj 0 _ x rfl hx0
    have hnew : ∀ b c, x = some (b, c) → w.heap.size ≤ b := fun b c e => by
      subst e
      rcases Nat.lt_or_ge b w.heap.size with hb | hb
      · exact absurd (h3.own b hb (.inl ⟨0, _, c, rfl, rfl, hx0⟩)) own_nil
      · exact hb
    have hMe : ∀ i, i < M.l.length → (M.app [x]).l[i]? = M.l[i]? := fun i hi => List.getElem?_append_left hi
    have hob : ∀ b, obOwn (hp ++ [.row te sz n ds]) (M.app [x]) b → obOwn hp M b ∨ ∃ c, x = some (b, c) := by
      rintro b ⟨i, o, c, e1, e2, e3⟩
      rcases getq_snoc e3 with ⟨hi, e4⟩ | ⟨_, e4⟩
      · rw [List.getElem?_append_left (by rw [← hrel.len]; exact hi)] at e1
        exact .inl ⟨i, o, c, e1, e2, e4⟩
      · exact .inr ⟨c, e4⟩
    have hown : ∀ b, b < w.heap.size → own (hp ++ [.row te sz n ds]) (M.app [x]) b → own hp M b := by
      rintro b hb (hb1 | ⟨hg, y, hy, e⟩)
      · rcases hob b hb1 with h | ⟨c, e⟩
        · exact .inl h
        · have := hnew b c e; omega
      · exact .inr ⟨hg.of (bag_snoc rfl), y, hy, e⟩
    have hs2 : Stp w (own hp M) w' (own (hp ++ [.row te sz n ds]) (M.app [x])) := .mk' h3.size (fun b hb _ => hkeep b hb) hown h3.os h3.tape h3.output rfl (fun g => g.of (bag_snoc rfl)) fun x hx => hkeep _ (hrel.bags.tgs x hx).1
    have hplain : ∀ (d : D) (u : Value) (w1 w2 : World) (O1 O2 : Ow), d ∈ ds → VD w1 O1 d u → VD w2 O2 d u := fun d u w1 w2 O1 O2 hd hv => by
      obtain ⟨y, rfl⟩ := hpl d hd
      cases hv with
      | v _ h => exact .v _ h
    have hlt : ∀ b c, x = some (b, c) → b < w'.heap.size := fun b c e => by
      subst e
      obtain ⟨_, cs, e1, _⟩ := hrow
      exact (Array.getElem?_eq_some_iff.1 e1).1
    refine ⟨v, .sl hp.length n, _, M.app [x], rfl, ⟨rfl, rfl⟩, ⟨by simp [hrel.len], fun i o m ho hm => ?_, fun b hb hz => ?_, fun b hb => Nat.lt_of_lt_of_le (hrel.old b hb) h3.size, hrel.amb_stp hs, fun i j oi oj b c c' hi hj li lj mi mj => ?_, ⟨fun y hy => ⟨Nat.lt_of_lt_of_le (hrel.bags.tgs y hy).1 h3.size, fun hb => ?_⟩, fun i j al al' hi hj => hrel.bags.one i j al al' (bag_snoc rfl i al hi) (bag_snoc rfl j al' hj)⟩⟩, ?_, hs2, ⟨by simp [hrel.len], fun i hi => hMe i (by rw [hrel.len]; exact hi)⟩⟩
    · rcases getq_snoc ho with ⟨hi, e3⟩ | ⟨hi, rfl⟩
      · rw [hMe i (by rw [hrel.len]; exact hi)] at hm
        have := hrel.obj i o m e3 hm
        refine this.move (k := M.l.length) (stp_z Z hs2) hMe this.bel (fun b c e hl => ?_) fun _ _ => ⟨rfl, fun x hx => hkeep _ (hrel.bags.tgs x hx).1⟩
        subst e
        exact hkeep b (hrel.block_ob ⟨i, o, c, e3, hl, hm⟩)
      · subst hi
        rw [← hrel.len] at hm
        have : m = x := by
          rcases getq_snoc hm with ⟨hi, _⟩ | ⟨_, h⟩
          · omega
          · exact h.symm
        subst this
        match m, hrow with
        | none, hrow => exact hrow
        | some (b, c), ⟨e0, cs, e1, e2, e3, e4, e5⟩ => exact ⟨e0, cs, e1, e2, e3, e4, fun j d hd => let ⟨u, f1, f2⟩ := e5 j d hd; ⟨u, f1, hplain d u _ _ _ _ (List.mem_of_getElem? hd) f2⟩⟩
    · rcases hb with hb1 | ⟨hg, y, hy, e⟩
      · rcases hob b hb1 with h | ⟨c, e⟩
        · exact hrel.apart b (.inl h) hz
        · have := hnew b c e; have := hrel.old b hz; omega
      · exact hrel.apart b (.inr ⟨hg.of (bag_snoc rfl), y, hy, e⟩) hz
    · have old : ∀ (i : Nat) (o : Ob) (c : Nat), hp[i]? = some o → o.live = true → M.l[i]? = some (some (b, c)) → b < w.heap.size := fun i o c e1 e2 e3 => hrel.block_lt (.inl ⟨i, o, c, e1, e2, e3⟩)
      rcases getq_snoc mi with ⟨hi1, hi2⟩ | ⟨hi1, hi2⟩
      · rw [List.getElem?_append_left (by rw [← hrel.len]; exact hi1)] at hi
        rcases getq_snoc mj with ⟨hj1, hj2⟩ | ⟨hj1, hj2⟩
        · rw [List.getElem?_append_left (by rw [← hrel.len]; exact hj1)] at hj
          exact hrel.inj i j oi oj b c c' hi hj li lj hi2 hj2
        · have := old i oi c hi li hi2; have := hnew b c' hj2; omega
      · rcases getq_snoc mj with ⟨hj1, hj2⟩ | ⟨hj1, hj2⟩
        · rw [List.getElem?_append_left (by rw [← hrel.len]; exact hj1)] at hj
          have := old j oj c' hj lj hj2; have := hnew b c hi2; omega
        · omega
    · rcases hob _ hb with h | ⟨c, e⟩
      · exact (hrel.bags.tgs y hy).2 h
      · have := hnew _ c e; have := (hrel.bags.tgs y hy).1; omega
    · cases h2 with
      | sl hM hn hm =>
        rw [hx] at hM
        simp at hM
        refine .sl (b := _) (c := _) ?_ hn hm
        rw [← hrel.len]
        simp [hM]
      | slnil hM =>
        rw [hx] at hM
        simp at hM
        refine .slnil ?_
        rw [← hrel.len]
        simp [hM]
def D.isV : D → Bool
  | .v _ => true
  | _ => false
theorem plain_flat {α : Type} {enc : α → List D} (h : ∀ x, (enc x).all D.isV = true) (l : List α) : ∀ d ∈ l.flatMap enc, ∃ v, d = .v v := fun d hd => by
  obtain ⟨x, _, h2⟩ := List.mem_flatMap.1 hd
  have := List.all_eq_true.1 (h x) d h2
  cases d <;> first | exact ⟨_, rfl⟩ | cases this
theorem eo_callLR {rest : List Oper} {d : Tmp} {ty : TypeId} {pos : String} {after : Array Edge} {gs0 : List G} {te : TypeId} {sz n : Nat} {ds : List D} (hcl : Callable P f) (hc : EC P f gs0 [] fun g hp' => g = .sl 0 n ∧ hp' = [.row te sz n ds]) (hpl : ∀ d ∈ ds, ∃ v, d = .v v) (hd : Nat.blt d N = true) (hF : F ≤ hp.length) (hf : fr.ev fop = some (.fn (.func f) g1 g2)) (ha : args.toList.mapM fr.ev = some gs') (hgs : (g1 ++ gs' ++ g2).map (G.lend hp) = gs0) (hb : G.belAll 0 gs0 = true)
    (h : EO P F N ops rest Q ((d, .sl hp.length n) :: fr) (hp ++ [.row te sz n ds])) : EO P F N ops (⟨some d, .call ⟨.value fop, args, ts⟩, ty, pos, after, none⟩ :: rest) Q fr hp := by
  subst hgs
  exact eo_call hd hF hf ha hcl (EC.lendRow hc hb hpl) (by rintro _ _ ⟨rfl, rfl⟩; exact h)
end
end Go.Gk
