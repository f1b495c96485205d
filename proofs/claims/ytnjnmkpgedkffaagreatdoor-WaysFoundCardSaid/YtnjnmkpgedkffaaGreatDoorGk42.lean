/-
  THE GHOST LOGIC, PART 40: a row that loses a part of its middle (slices.Delete): its front, its end moved onto it, what lies behind let go.
  THE GHOST LOGIC, PART 41: slices that lie in rows, maps and structs and grow in place: tags, given out by a bag.
  THE GHOST LOGIC, PART 42: local arrays with an index that is not told; == on arrays of numbers; loops taken apart.
-/
import Derived.Test.YtnjnmkpgedkffaaGreatDoorGk39
set_option linter.unusedVariables false
set_option linter.unusedSimpArgs false
set_option linter.unusedSectionVars false
namespace Go.Gk
open Go.Instr
variable {P : Program} {Γ : TypeId → Option TI} {F N : Nat} {Q : GPost} {fr fr' : Fr} {hp hp' : List Ob} {ks : List Kt}
variable {α : Type} {enc : α → List D} {ops : Array Oper} {rest : List Oper} {g : G}
variable {d : Tmp} {op : Op} {ty : TypeId} {pos : String} {after : Array Edge} {gd' : Option (Nat × Bool)}
end Go.Gk
namespace Go.Gk
/-- A slice with its tag. -/
abbrev Tl (α : Type) : Type := Nat × List α
def Slt {α : Type} (te : TypeId) (sz : Nat) (enc : α → List D) (s : Tl α) : D := .rt te sz s.1 s.2.length (s.2.flatMap enc)
def eT {α : Type} (te : TypeId) (sz : Nat) (enc : α → List D) (s : Tl α) : List D := [Slt te sz enc s]
/-- A new tag. -/
theorem tag_push {Z : Env} {hp hp1 : List Ob} {M : Mp} {w w' : World} {bg : Nat} {al al0 : List Bool} (T : Option Tg) (hr : RelH Z hp M w) (hbag : hp[bg]? = some (.bag al)) (hl : hp1.length = hp.length)
    (h1 : ∀ (i : Nat) (o : Ob), hp1[i]? = some o → o = .dead ∨ (i ≠ bg ∧ hp[i]? = some o) ∨ (i = bg ∧ o = .bag (al0 ++ [true]))) (hb1 : hp1[bg]? = some (.bag (al0 ++ [true])))
    (g1 : w.heap.size ≤ w'.heap.size) (g2 : w'.os = w.os) (g3 : w'.tape = w.tape) (g4 : w'.output = w.output) (hkeep : ∀ k, k < w.heap.size → (∀ y : Tg, T = some y → k ≠ y.b) → w'.heap[k]? = w.heap[k]?)
    (hlen : al0.length = al.length) (hal : ∀ t : Nat, al0[t]? = some true → al[t]? = some true)
    (hT : ∀ y : Tg, T = some y → (∃ cur : Array Value, w'.heap[y.b]? = some (.cells cur y.t (0, 0)) ∧ cur.size = y.c * y.sz ∧ y.n ≤ y.c ∧ y.c ≤ maxLen) ∧ (y.b < w.heap.size → own hp M y.b) ∧ ¬ obOwn hp1 M y.b ∧
      (∀ x : Tg, some x ∈ M.h → x.b = y.b → x.n * x.sz ≤ y.n * y.sz ∧ ∀ k, k < x.n * x.sz → w'.cell? ⟨x.b, k, none⟩ = w.cell? ⟨x.b, k, none⟩) ∧ (∀ (t : Nat) (x : Tg), al0[t]? = some true → M.h[t]? = some (some x) → x.b ≠ y.b)) :
    RelH Z hp1 ⟨M.l, M.h ++ [T]⟩ w' ∧ Stp w (own hp M) w' (own hp1 ⟨M.l, M.h ++ [T]⟩) ∧ Agr hp.length M ⟨M.l, M.h ++ [T]⟩ := by
  have hbl : bg < hp.length := (List.getElem?_eq_some_iff.1 hbag).1
  have hbm : M.l[bg]? = some none := by
    have e : M.l[bg]? = some (M.l[bg]'(by rw [hr.len]; exact hbl)) := List.getElem?_eq_getElem _
    have := hr.obj bg _ _ hbag e
    revert this
    rw [e]
    cases M.l[bg]'(by rw [hr.len]; exact hbl) with
    | none => exact fun _ => rfl
    | some _ => exact fun h => h.elim
  obtain ⟨q1, q2, q3⟩ := hr.obj bg _ _ hbag hbm
  have hg : hasBag hp := ⟨bg, al, hbag⟩
  have hg1 : hasBag hp1 := ⟨bg, _, hb1⟩
  have hmem : ∀ x : Tg, some x ∈ M.h ++ [T] → some x ∈ M.h ∨ T = some x := fun x hx => (List.mem_append.1 hx).imp id fun h => (List.mem_singleton.1 h).symm
  have hob : ∀ b, obOwn hp1 M b → obOwn hp M b := by
    rintro b ⟨i, o, c, e1, e2, e3⟩
    rcases h1 i o e1 with rfl | ⟨_, e⟩ | ⟨rfl, rfl⟩
    · cases e2
    · exact ⟨i, o, c, e, e2, e3⟩
    · rw [hbm] at e3; cases e3
  have hob' : ∀ b, obOwn hp1 ⟨M.l, M.h ++ [T]⟩ b → obOwn hp M b := fun b h => hob b h
  have hown : ∀ b, b < w.heap.size → own hp1 ⟨M.l, M.h ++ [T]⟩ b → own hp M b := by
    rintro b hb (h | ⟨_, x, hx, rfl⟩)
    · exact .inl (hob b h)
    · rcases hmem x hx with hx | hx
      · exact .inr ⟨hg, x, hx, rfl⟩
      · exact (hT x hx).2.1 hb
  have hfz : ∀ x : Tg, some x ∈ M.h → ∀ k, k < x.n * x.sz → w'.cell? ⟨x.b, k, none⟩ = w.cell? ⟨x.b, k, none⟩ := fun x hx k hk => by
    by_cases hxy : ∃ y, T = some y ∧ x.b = y.b
    · obtain ⟨y, hy, e⟩ := hxy
      exact ((hT y hy).2.2.2.1 x hx e).2 k hk
    · exact World.cell?_of_block (hkeep _ (hr.bags.tgs x hx).1 fun y hy e => hxy ⟨y, hy, e⟩)
  have hst : Stp w (own hp M) w' (own hp1 ⟨M.l, M.h ++ [T]⟩) := by
    refine ⟨g1, fun b hb hn => hkeep b hb fun y hy e => ?_, hown, g2, g3, g4, ⟨[T], rfl, fun x hx hb => ?_⟩, hfz, fun h => absurd hg h⟩
    · subst e; exact hn ((hT y hy).2.1 hb)
    · exact (hT x (List.mem_singleton.1 hx).symm).2.1 hb
  refine ⟨⟨by rw [hl]; exact hr.len, fun i o m e1 e2 => ?_, fun b hb hz => ?_, fun b hb => Nat.lt_of_lt_of_le (hr.old b hb) g1, hr.amb_stp hst, fun i j oi oj b c c' hi hj li lj mi mj => ?_, ⟨fun x hx => ⟨?_, fun h => ?_⟩, fun i j a a' hi hj => ?_⟩⟩, hst, ⟨by rw [show (⟨M.l, M.h ++ [T]⟩ : Mp).l.length = M.l.length from rfl, hr.len]; exact Nat.le_refl _, fun _ _ => rfl⟩⟩
  · have e2' : M.l[i]? = some m := e2
    rcases h1 i o e1 with rfl | ⟨hi, e⟩ | ⟨rfl, rfl⟩
    · cases m <;> trivial
    · have := hr.obj i o m e e2'
      refine this.move (k := M.l.length) (M := M) (M' := ⟨M.l, M.h ++ [T]⟩) (stp_z Z hst) (fun _ _ => rfl) this.bel (fun b c em hl2 => ?_) fun a ea => ?_
      · subst em
        refine hkeep b (hr.block_ob ⟨i, o, c, e, hl2, e2'⟩) fun y hy eb => (hT y hy).2.2.1 ⟨i, o, c, e1, hl2, eb ▸ e2'⟩
      · subst ea
        exact absurd (hr.bags.one _ _ _ _ e hbag) hi
    · rw [hbm] at e2'
      cases e2'
      have hnew : ∀ (t : Nat) (x : Tg), (al0 ++ [true])[t]? = some true → (M.h ++ [T])[t]? = some (some x) → (t < al.length ∧ al0[t]? = some true ∧ M.h[t]? = some (some x)) ∨ (t = al.length ∧ T = some x) := fun t x ha hx => by
        by_cases ht : t < al.length
        · rw [List.getElem?_append_left (by omega)] at ha
          rw [List.getElem?_append_left (by omega)] at hx
          exact .inl ⟨ht, ha, hx⟩
        · rw [List.getElem?_append_right (by omega)] at hx
          rw [List.getElem?_append_right (by omega)] at ha
          have hk : t - M.h.length = 0 := by
            have := (List.getElem?_eq_some_iff.1 hx).1
            simp at this; exact this
          rw [hk] at hx
          simp at hx
          exact .inr ⟨by omega, hx⟩
      refine ⟨by simp; omega, fun t x ha hx => ?_, fun t t' x x' ha hx hx' hb => ?_⟩
      · rcases hnew t x ha hx with ⟨_, ha', hx'⟩ | ⟨_, hy⟩
        · obtain ⟨cs, k1, k2⟩ := q2 t x (hal t ha') hx'
          refine ⟨cs, ?_, k2⟩
          rw [hkeep _ (hr.bags.tgs x (List.mem_of_getElem? hx')).1 fun y hy => (hT y hy).2.2.2.2 t x ha' hx']
          exact k1
        · obtain ⟨⟨cur, k1, k2, k3, k4⟩, _⟩ := hT x hy
          exact ⟨cur, k1, k2, k3, k4⟩
      · have hx2 : (t' < al.length ∧ M.h[t']? = some (some x')) ∨ (t' = al.length ∧ T = some x') := by
          have hx'' : (M.h ++ [T])[t']? = some (some x') := hx'
          by_cases ht : t' < al.length
          · rw [List.getElem?_append_left (by omega)] at hx''; exact .inl ⟨ht, hx''⟩
          · rw [List.getElem?_append_right (by omega)] at hx''
            have hk : t' - M.h.length = 0 := by
              have := (List.getElem?_eq_some_iff.1 hx'').1
              simp at this; exact this
            rw [hk] at hx''
            simp at hx''
            exact .inr ⟨by omega, hx''⟩
        rcases hnew t x ha hx with ⟨ht, ha', hx1⟩ | ⟨ht, hy⟩
        · rcases hx2 with ⟨ht', hx2⟩ | ⟨ht', hy'⟩
          · obtain ⟨k1, k2⟩ := q3 t t' x x' (hal t ha') hx1 hx2 hb
            refine ⟨k1, fun ha2 => k2 (hal t' ?_)⟩
            rw [List.getElem?_append_left (by omega)] at ha2
            exact ha2
          · exact absurd hb.symm ((hT x' hy').2.2.2.2 t x ha' hx1)
        · rcases hx2 with ⟨ht', hx2⟩ | ⟨ht', hy'⟩
          · refine ⟨((hT x hy).2.2.2.1 x' (List.mem_of_getElem? hx2) hb).1, fun ha2 => ?_⟩
            rw [List.getElem?_append_left (by omega)] at ha2
            exact absurd hb ((hT x hy).2.2.2.2 t' x' ha2 hx2)
          · rw [hy] at hy'
            cases hy'
            exact ⟨Nat.le_refl _, fun _ => by omega⟩
  · by_cases hb' : b < w.heap.size
    · exact hr.apart b (hown b hb' hb) hz
    · exact absurd (hr.old b hz) hb'
  · have key : ∀ (i : Nat) (o : Ob) (c : Nat), hp1[i]? = some o → o.live = true → M.l[i]? = some (some (b, c)) → hp[i]? = some o := fun i o c e1 e2 e3 => by
      rcases h1 i o e1 with rfl | ⟨_, e⟩ | ⟨rfl, rfl⟩
      · cases e2
      · exact e
      · rw [hbm] at e3; cases e3
    exact hr.inj i j oi oj b c c' (key i oi c hi li mi) (key j oj c' hj lj mj) li lj mi mj
  · rcases hmem x hx with hx | hx
    · exact Nat.lt_of_lt_of_le (hr.bags.tgs x hx).1 g1
    · obtain ⟨⟨cur, k1, _⟩, _⟩ := hT x hx
      exact (Array.getElem?_eq_some_iff.1 k1).1
  · rcases hmem x hx with hx | hx
    · exact (hr.bags.tgs x hx).2 (hob _ h)
    · exact (hT x hx).2.2.1 h
  · have key : ∀ (i : Nat) (a : List Bool), hp1[i]? = some (.bag a) → i = bg := fun i a e => by
      rcases h1 i _ e with h | ⟨_, h⟩ | ⟨h, _⟩
      · cases h
      · exact hr.bags.one _ _ _ _ h hbag
      · exact h
    rw [key i a hi, key j a' hj]
section
variable {P : Program} {Γ : TypeId → Option TI} {F N : Nat} {Q : GPost} {fr fr' : Fr} {hp hp' : List Ob} {ks : List Kt}
variable {ops : Array Oper} {rest : List Oper} {g : G} {α : Type} {enc : α → List D}
variable {d : Tmp} {op : Op} {ty : TypeId} {pos : String} {after : Array Edge} {gd : Option (Nat × Bool)}
/-- What append does with a slice that has a tag (or is full), case by case. -/
theorem app_tag {Z : Env} {M : Mp} {w : World} {bg t te tyo : TypeId} {i2 : TI} {al al0 : List Bool} {n m tg : Nat} {ds ys : List D} {sv xv : Value} (hΓ : TOK P Γ) (u1 : P.underlying t = some (.slice te)) (h2 : Γ te = some i2) (hz : Nat.beq i2.zero.cells.size i2.size = true) (hz0 : Nat.blt 0 i2.size = true)
    (hr : RelH Z hp M w) (hx : VD w (ownZ Z hp M) (.rt te i2.size tg n ds) sv) (hdl : ds.length = n * i2.size) (hy : VD w (ownZ Z hp M) (.ro m ys) xv) (hl : ys.length = m * i2.size) (hb : (n + m) * i2.bytes ≤ 140737488355328) (hm : n + m ≤ maxLen) (hm0 : 0 < m)
    (hbag : hp[bg]? = some (.bag al)) (htg : (tg = 1 ∧ al0 = al) ∨ ∃ q, tg = q + 2 ∧ al[q]? = some true ∧ al0 = al.set q false) :
    ∃ (v' : Value) (w' : World) (gb c' : Nat) (cur : Array Value), (Builtin.append_ #[t, t] tyo #[sv, xv]).run P w = .ok v' w' ∧ w.heap.size ≤ w'.heap.size ∧ w'.os = w.os ∧ w'.tape = w.tape ∧ w'.output = w.output ∧ v' = .slice (some ⟨gb, 0, none⟩) (n + m) c' ∧
      w'.heap[gb]? = some (.cells cur te (0, 0)) ∧ cur.size = c' * i2.size ∧ n + m ≤ c' ∧ c' ≤ maxLen ∧ (∀ (j : Nat) (dd : D), (ds ++ ys)[j]? = some dd → ∃ u, cur[j]? = some u ∧ VD w (ownZ Z hp M) dd u) ∧ (∀ k, k < w.heap.size → k ≠ gb → w'.heap[k]? = w.heap[k]?) ∧
      (w.heap.size ≤ gb ∨ ∃ (q : Nat) (x : Tg), tg = q + 2 ∧ al[q]? = some true ∧ al0 = al.set q false ∧ M.h[q]? = some (some x) ∧ x.b = gb ∧ x.n = n ∧ x.sz = i2.size ∧ ∀ k, k < n * i2.size → w'.cell? ⟨gb, k, none⟩ = w.cell? ⟨gb, k, none⟩) := by
  obtain ⟨_, inf, e1, e2, e3, e4⟩ := hΓ te _ h2
  have hzs : i2.zero.cells.size = inf.size := by rw [e2]; exact Nat.eq_of_beq_eq_true hz
  have hpos : 0 < i2.size := nblt.1 hz0
  cases hx with
  | rt _ _ _ _ _ _ hx hT =>
  -- the source
  obtain ⟨xb, xo, xc, news, rfl, hnl, hnc, hnv, hn1⟩ : ∃ (b off cap : Nat) (vs : List Value), xv = .slice (some ⟨b, off, none⟩) m cap ∧ vs.length = ys.length ∧ (∀ (j : Nat) (u : Value), vs[j]? = some u → w.cell? ⟨b, off + j, none⟩ = some u) ∧ (∀ (j : Nat) (u : Value) (d : D), vs[j]? = some u → ys[j]? = some d → VD w (ownZ Z hp M) d u) ∧ ∀ u ∈ vs, u.oneCell' = true := by
    rcases data_cells hy with ⟨_, rfl, _⟩ | h
    · omega
    · exact h
  have hnews : ∀ (cur : Array Value), (∀ j u, news[j]? = some u → cur[n * i2.size + j]? = some u) → ∀ (j : Nat) (dd : D), ys[j]? = some dd → ∃ u, cur[n * i2.size + j]? = some u ∧ VD w (ownZ Z hp M) dd u := fun cur hc j dd hj => by
    have hlt : j < news.length := by rw [hnl]; exact (List.getElem?_eq_some_iff.1 hj).1
    have := List.getElem?_eq_getElem hlt
    exact ⟨_, hc j _ this, hnv j _ dd this hj⟩
  have hboth : ∀ (cur : Array Value), (∀ (j : Nat) (dd : D), ds[j]? = some dd → ∃ u, cur[j]? = some u ∧ VD w (ownZ Z hp M) dd u) → (∀ j u, news[j]? = some u → cur[n * i2.size + j]? = some u) → ∀ (j : Nat) (dd : D), (ds ++ ys)[j]? = some dd → ∃ u, cur[j]? = some u ∧ VD w (ownZ Z hp M) dd u := fun cur h1 h2 j dd hj => by
    by_cases hjd : j < ds.length
    · rw [List.getElem?_append_left hjd] at hj; exact h1 j dd hj
    · rw [List.getElem?_append_right (by omega)] at hj
      obtain ⟨u, k1, k2⟩ := hnews cur h2 _ dd hj
      exact ⟨u, by rw [← k1]; congr 1; omega, k2⟩
  -- a nil slice
  have nilCase : sv = .slice none 0 0 → n = 0 → ∃ (v' : Value) (w' : World) (gb c' : Nat) (cur : Array Value), (Builtin.append_ #[t, t] tyo #[sv, .slice (some ⟨xb, xo, none⟩) m xc]).run P w = .ok v' w' ∧ w.heap.size ≤ w'.heap.size ∧ w'.os = w.os ∧ w'.tape = w.tape ∧ w'.output = w.output ∧ v' = .slice (some ⟨gb, 0, none⟩) (n + m) c' ∧
      w'.heap[gb]? = some (.cells cur te (0, 0)) ∧ cur.size = c' * i2.size ∧ n + m ≤ c' ∧ c' ≤ maxLen ∧ (∀ (j : Nat) (dd : D), (ds ++ ys)[j]? = some dd → ∃ u, cur[j]? = some u ∧ VD w (ownZ Z hp M) dd u) ∧ (∀ k, k < w.heap.size → k ≠ gb → w'.heap[k]? = w.heap[k]?) ∧ w.heap.size ≤ gb := by
    rintro rfl rfl
    obtain ⟨v', w', mo', hrun, k1, k2, k3, k4, hres⟩ := app_core (P := P) (tyo := tyo) (n := 0) (m := m) (cs0 := #[]) (sv := .slice none 0 0) none u1 e1 e4 hzs (by rw [e2]; exact hpos) (.inl ⟨rfl, rfl, rfl⟩) (.inr ⟨xb, xo, xc, rfl, hnc⟩) (by rw [hnl, hl, e2]) hn1 hm (by rw [e3]; exact hb)
    rcases hres with ⟨_, _, r3, _⟩ | ⟨b', c', cur, r1, r2, r3, r4, r5, r6, r7, r8, r9, r10⟩
    · omega
    · rcases r10 with ⟨c, hc⟩ | r10
      · cases hc
      · have hds : ds = [] := List.eq_nil_of_length_eq_zero (by simpa using hdl)
        subst hds
        exact ⟨v', w', b', c', cur, hrun, k1, k2, k3, k4, r2, r3, by rw [r4, e2], r5, r6, hboth cur (fun j dd h => by simp at h) (fun j u h => by have := r8 j u h; rw [e2] at this; exact this), r9, by omega⟩
  rcases htg with ⟨rfl, rfl⟩ | ⟨q, rfl, hq, rfl⟩
  · -- full
    obtain ⟨a, rfl⟩ := hT
    rcases data_cells hx with ⟨e, rfl, rfl⟩ | ⟨b, off, cap, vs, e, hvl, hvc, hvv, _⟩
    · obtain ⟨v', w', gb, c', cur, k1, k2, k3, k4, k5, k6, k7, k8, k9, k10, k11, k12, k13⟩ := nilCase e rfl
      exact ⟨v', w', gb, c', cur, k1, k2, k3, k4, k5, k6, k7, k8, k9, k10, k11, k12, .inl k13⟩
    · cases e
      obtain ⟨v', w', r1, r2, r3⟩ := run_append_arg_grows (P := P) w t tyo te inf i2.zero inf.size inf.bytes u1 e1 e4 rfl rfl hzs (by rw [e2]; exact hpos) ⟨b, off, none⟩ n n vs (by rw [hvl, hdl, e2]) (fun j u hj => by rw [Addr.add_lit]; exact hvc j u hj) ⟨xb, xo, none⟩ m xc news (by rw [hnl, hl, e2]) (fun j u hj => by rw [Addr.add_lit]; exact hnc j u hj) (by omega) hm (by rw [e3]; exact hb)
      rcases r2.2 with ⟨rfl, hn0⟩ | ⟨gb, c', cur, rfl, q1, q2, q3, q4, q5, q6⟩
      · omega
      · have hcur : ∀ j u, (vs ++ news)[j]? = some u → cur[j]? = some u := fun j u hj => by
          have hlt := (List.getElem?_eq_some_iff.1 hj).1
          rw [← q6, List.getElem?_take_of_lt (by rw [List.length_append, hvl, hnl, hdl, hl, ← Nat.add_mul, ← e2] at hlt; exact hlt)] at hj
          simpa using hj
        refine ⟨_, w', gb, c', cur, r1, r3.size, r3.os, r3.tape, r3.output, rfl, q2, by rw [q5, e2], q3, q4, hboth cur (fun j dd hj => ?_) (fun j u hj => ?_), fun k hk hne => r3.block k hk (by simp), .inl q1⟩
        · have hlt : j < vs.length := by rw [hvl]; exact (List.getElem?_eq_some_iff.1 hj).1
          have hv := List.getElem?_eq_getElem hlt
          exact ⟨_, hcur j _ (by rw [List.getElem?_append_left hlt]; exact hv), hvv j _ dd hv hj⟩
        · refine hcur _ u ?_
          rw [List.getElem?_append_right (by rw [hvl, hdl]; omega), hvl, hdl]
          rw [← hj]; congr 1; omega
  · rcases hT with ⟨hn, rfl⟩ | ⟨x, hxh, hxn, hxt, hxs, rfl⟩
    · have : n = 0 := by
        cases hx with
        | nil => rfl
      obtain ⟨v', w', gb, c', cur, k1, k2, k3, k4, k5, k6, k7, k8, k9, k10, k11, k12, k13⟩ := nilCase rfl this
      exact ⟨v', w', gb, c', cur, k1, k2, k3, k4, k5, k6, k7, k8, k9, k10, k11, k12, .inl k13⟩
    · subst hxn; subst hxt
      have hbl : bg < hp.length := (List.getElem?_eq_some_iff.1 hbag).1
      have e : M.l[bg]? = some (M.l[bg]'(by rw [hr.len]; exact hbl)) := List.getElem?_eq_getElem _
      have hbo := hr.obj bg _ _ hbag e
      obtain ⟨cs0, c1, c2, c3, c4⟩ : ∃ cs : Array Value, w.heap[x.b]? = some (.cells cs x.t (0, 0)) ∧ cs.size = x.c * x.sz ∧ x.n ≤ x.c ∧ x.c ≤ maxLen := by
        revert hbo
        cases M.l[bg]'(by rw [hr.len]; exact hbl) with
        | none => exact fun h => h.2.1 q x hq hxh
        | some _ => exact fun h => h.elim
      obtain ⟨v', w', mo', hrun, k1, k2, k3, k4, hres⟩ := app_core (P := P) (tyo := tyo) (n := x.n) (m := m) (cs0 := cs0) (sv := .slice (some ⟨x.b, 0, none⟩) x.n x.c) (some (x.b, x.c)) u1 e1 e4 hzs (by rw [e2]; exact hpos) (.inr ⟨x.b, x.c, rfl, rfl, c1, by rw [c2, hxs, e2], c3, c4⟩) (.inr ⟨xb, xo, xc, rfl, hnc⟩) (by rw [hnl, hl, e2]) hn1 hm (by rw [e3]; exact hb)
      have holds : ∀ (j : Nat) (dd : D), ds[j]? = some dd → ∃ u, cs0[j]? = some u ∧ VD w (ownZ Z hp M) dd u := fun j dd hj => by
        rcases data_cells hx with ⟨e, _⟩ | ⟨b, off, cap, vs, e, hvl, hvc, hvv, _⟩
        · simp at e
        · simp only [Value.slice.injEq, Option.some.injEq, Addr.mk.injEq] at e
          obtain ⟨⟨e1, e2, _⟩, _⟩ := e
          subst e2
          have hlt : j < vs.length := by rw [hvl]; exact (List.getElem?_eq_some_iff.1 hj).1
          have hv := List.getElem?_eq_getElem hlt
          have := hvc j _ hv
          rw [Nat.zero_add, ← e1, cell_of_row w x.b j cs0 _ _ c1] at this
          exact ⟨_, this, hvv j _ dd hv hj⟩
      rcases hres with ⟨_, _, r3, _⟩ | ⟨b', c', cur, r1, r2, r3, r4, r5, r6, r7, r8, r9, r10⟩
      · omega
      · have hold' : ∀ (j : Nat) (dd : D), ds[j]? = some dd → ∃ u, cur[j]? = some u ∧ VD w (ownZ Z hp M) dd u := fun j dd hj => by
          obtain ⟨u, f1, f2⟩ := holds j dd hj
          have hlt := (List.getElem?_eq_some_iff.1 hj).1
          exact ⟨u, by rw [r7 j (by rw [← e2] at hdl; omega) (by simp)]; exact f1, f2⟩
        refine ⟨v', w', b', c', cur, hrun, k1, k2, k3, k4, r2, r3, by rw [r4, e2], r5, r6, hboth cur hold' (fun j u h => by have := r8 j u h; rw [e2] at this; exact this), r9, ?_⟩
        rcases r10 with ⟨c, hc⟩ | r10
        · cases hc
          refine .inr ⟨q, x, rfl, hq, rfl, hxh, rfl, rfl, hxs, fun k hk => ?_⟩
          rw [cell_of_row w' x.b k cur _ _ r3, cell_of_row w x.b k cs0 _ _ c1]
          exact r7 k (by rw [e2]; exact hk) (by simp)
        · exact .inl (by omega)
def appT {α : Type} (al : List Bool) (s : Tl α) (m : List α) : Option (Tl α × List Bool) :=
  bi (apd s.2 m) fun r => bif m.isEmpty then some (s, al) else match s.1 with
    | 0 => none
    | 1 => some ((al.length + 2, r), al ++ [true])
    | t + 2 => bif (al[t]?).getD false then some ((al.length + 2, r), al.set t false ++ [true]) else none
theorem appT_ok {al al' : List Bool} {s r : Tl α} {m : List α} (h : appT al s m = some (r, al')) : apd s.2 m = some (s.2 ++ m) ∧ ((m = [] ∧ r = s ∧ al' = al) ∨ (m ≠ [] ∧ r = (al.length + 2, s.2 ++ m) ∧ ∃ al0, al' = al0 ++ [true] ∧ ((s.1 = 1 ∧ al0 = al) ∨ ∃ q, s.1 = q + 2 ∧ al[q]? = some true ∧ al0 = al.set q false))) := by
  unfold appT at h
  obtain ⟨r0, hr, h⟩ := bi_ok h
  obtain ⟨rfl, hle⟩ := apd_ok hr
  refine ⟨hr, ?_⟩
  cases m with
  | nil => simp at h; exact .inl ⟨rfl, h.1.symm, h.2.symm⟩
  | cons y m =>
    right
    simp only [List.isEmpty_cons, cond_false] at h
    refine ⟨by simp, ?_⟩
    obtain ⟨t, l⟩ := s
    match t, h with
    | 1, h => simp at h; exact ⟨h.1.symm, al, h.2.symm, .inl ⟨rfl, rfl⟩⟩
    | t + 2, h =>
      simp only at h
      cases hc : (al[t]?).getD false with
      | false => rw [hc] at h; cases h
      | true =>
        rw [hc] at h
        simp at h
        refine ⟨h.1.symm, al.set t false, h.2.symm, .inr ⟨t, rfl, ?_, rfl⟩⟩
        cases hq : al[t]? with
        | none => rw [hq] at hc; cases hc
        | some b => rw [hq] at hc; simp at hc; rw [hc]
theorem run_append_zero {w : World} {t te tyo : TypeId} {inf : TypeInfo} {n c : Nat} {a : Option Addr} {xv : Value} (hu : P.underlying t = some (.slice te)) (hi : P.info? te = some inf) (hn : n ≤ c) (hx : (xv = .slice none 0 0) ∨ ∃ b cap, xv = .slice (some b) 0 cap) :
    (Builtin.append_ #[t, t] tyo #[.slice a n c, xv]).run P w = .ok (.slice a n c) w := by
  rcases hx with rfl | ⟨b, cap, rfl⟩
  · cases a <;> simp [Builtin.append_, run_underlying hu, sizeOf, typeInfo, hi, Builtin.lenOf, Builtin.firstCells, hn, storeCells]
  · cases a <;> simp [Builtin.append_, run_underlying hu, sizeOf, typeInfo, hi, Builtin.lenOf, Builtin.firstCells, loadCells, loadCellsFrom, hn, storeCells]
theorem vd_ro_le {w : World} {O : Ow} {n : Nat} {xs : List D} {v : Value} (h : VD w O (.ro n xs) v) : ∃ a c, v = .slice a n c ∧ n ≤ c := by
  cases h with
  | nil => exact ⟨_, _, rfl, Nat.le_refl _⟩
  | ro _ _ b off cap vs h3 h4 h5 => exact ⟨_, _, rfl, h5⟩
/-- APPEND to a slice that has a tag. -/
theorem ops_appT (hΓ : TOK P Γ) {t te : TypeId} {i1 i2 : TI} {x y : Operand} {bg : Nat} {s r : Tl α} {m : List α} {al al' : List Bool} {hp2 : List Ob} (hz : appT al s m = some (r, al')) (h1 : Γ t = some i1) (h1' : i1.desc = .slice te) (h2 : Γ te = some i2) (hzc : Nat.beq i2.zero.cells.size i2.size = true) (hz0 : Nat.blt 0 i2.size = true)
    (hx : fr.ev x = some (.d (Slt te i2.size enc s))) (hy : fr.ev y = some (.d (Sl enc m))) (hbag : hp[bg]? = some (.bag al)) (henc : ∀ y, (enc y).length = i2.size) (hbytes : Nat.ble (4294967296 * i2.bytes) 140737488355328 = true) (hhp : hp.set bg (.bag al') = hp2) :
    OpS P N ⟨some d, .call ⟨.builtin .append, #[x, y], #[t, t]⟩, ty, pos, after, gd⟩ fr hp (.d (Slt te i2.size enc r)) hp2 := by
  subst hhp
  intro Z w M a hr
  obtain ⟨u1, _⟩ := hΓ t _ h1
  rw [h1'] at u1
  have hvx := hr.ev hx
  have hvy := hr.ev hy
  obtain ⟨hap, hcase⟩ := appT_ok hz
  obtain ⟨_, hle⟩ := apd_ok hap
  generalize hvvx : a.eval x = vx at hvx
  generalize hvvy : a.eval y = vy at hvy
  cases hvx with
  | d hvx =>
  cases hvy with
  | d hvy =>
  have hb := Nat.le_of_ble_eq_true hbytes
  have hmul : (s.2.length + m.length) * i2.bytes ≤ 4294967296 * i2.bytes := Nat.mul_le_mul_right _ hle
  rcases hcase with ⟨rfl, rfl, rfl⟩ | ⟨hmne, rfl, al0, rfl, htg⟩
  · obtain ⟨_, inf, e1, e2, e3, e4⟩ := hΓ te _ h2
    have hset : hp.set bg (.bag al') = hp := by
      apply List.ext_getElem?
      intro j
      by_cases hj : bg = j
      · subst hj; rw [List.getElem?_set_self (List.getElem?_eq_some_iff.1 hbag).1, hbag]
      · rw [List.getElem?_set_ne hj]
    rw [hset]
    have hrun : (Builtin.append_ #[t, t] ty #[vx, vy]).run P w = .ok vx w := by
      have hxx : ∃ a' n' c', vx = .slice a' n' c' ∧ n' ≤ c' := by
        cases hvx with
        | rt _ _ _ _ _ _ hx' _ => exact let ⟨a', c', e, h⟩ := vd_ro_le hx'; ⟨a', _, c', e, h⟩
      obtain ⟨a', n', c', rfl, hn'⟩ := hxx
      refine run_append_zero u1 e1 hn' ?_
      rcases data_cells hvy with ⟨e, _⟩ | ⟨b, off, cap, vs, e, _⟩
      · exact .inl e
      · exact .inr ⟨_, _, e⟩
    exact ⟨vx, w, M, by simp [execOp, resolve, invoke, builtin, hvvx, hvvy, hrun], hr.heap, .d hvx, .refl _ _, ⟨Nat.le_of_eq hr.heap.len.symm, fun _ _ => rfl⟩⟩
  · have hm0 : 0 < m.length := by cases m with
      | nil => exact absurd rfl hmne
      | cons _ _ => simp
    obtain ⟨v', w', gb, c', cur, k1, k2, k3, k4, k5, k6, k7, k8, k9, k10, k11, k12, k13⟩ := app_tag (P := P) (tyo := ty) (bg := bg) hΓ u1 h2 hzc hz0 hr.heap hvx (flat_len henc s.2) hvy (flat_len henc m) (by omega) (by simp only [maxLen]; omega) hm0 hbag htg
    have hbl : bg < hp.length := (List.getElem?_eq_some_iff.1 hbag).1
    have hlen : al0.length = al.length := by rcases htg with ⟨_, rfl⟩ | ⟨q, _, _, rfl⟩ <;> simp
    have hal : ∀ t : Nat, al0[t]? = some true → al[t]? = some true := fun t ht => by
      rcases htg with ⟨_, rfl⟩ | ⟨q, _, _, rfl⟩
      · exact ht
      · by_cases hqt : q = t
        · subst hqt
          have hl := (List.getElem?_eq_some_iff.1 ht).1
          rw [List.getElem?_set_self (by simpa using hl)] at ht
          cases ht
        · rw [List.getElem?_set_ne hqt] at ht; exact ht
    have hobg : ¬ obOwn (hp.set bg (.bag (al0 ++ [true]))) M gb := by
      rintro ⟨i, o, c, e1, e2, e3⟩
      have hold : hp[i]? = some o ∧ o.live = true := by
        by_cases hi : bg = i
        · subst hi
          exfalso
          have := hr.heap.obj bg _ _ hbag e3
          exact this
        · rw [List.getElem?_set_ne hi] at e1; exact ⟨e1, e2⟩
      rcases k13 with h | ⟨q, x, _, _, _, hxh, rfl, _⟩
      · have := hr.heap.block_ob ⟨i, o, c, hold.1, hold.2, e3⟩; omega
      · exact (hr.heap.bags.tgs x (List.mem_of_getElem? hxh)).2 ⟨i, o, c, hold.1, hold.2, e3⟩
    have hbo : al.length = M.h.length ∧ (∀ (t t' : Nat) (x x' : Tg), al[t]? = some true → M.h[t]? = some (some x) → M.h[t']? = some (some x') → x'.b = x.b → x'.n * x'.sz ≤ x.n * x.sz ∧ (al[t']? = some true → t' = t)) := by
      have e : M.l[bg]? = some (M.l[bg]'(by rw [hr.heap.len]; exact hbl)) := List.getElem?_eq_getElem _
      have := hr.heap.obj bg _ _ hbag e
      revert this
      cases M.l[bg]'(by rw [hr.heap.len]; exact hbl) with
      | none => exact fun h => ⟨h.1, h.2.2⟩
      | some _ => exact fun h => h.elim
    obtain ⟨r1, r2, r3⟩ := tag_push (hp1 := hp.set bg (.bag (al0 ++ [true]))) (al0 := al0) (some ⟨gb, s.2.length + m.length, c', i2.size, te⟩) hr.heap hbag (by simp) (fun i o hi => by
        by_cases hib : bg = i
        · subst hib; rw [List.getElem?_set_self hbl] at hi; cases hi; exact .inr (.inr ⟨rfl, rfl⟩)
        · rw [List.getElem?_set_ne hib] at hi; exact .inr (.inl ⟨Ne.symm hib, hi⟩)) (List.getElem?_set_self hbl) k2 k3 k4 k5 (fun k hk hne => k12 k hk (hne _ rfl)) hlen hal (fun y hy => by
        cases hy
        refine ⟨⟨cur, k7, k8, k9, k10⟩, fun hlt => ?_, hobg, fun x hx hxb => ?_, fun t x ht hx hxb => ?_⟩
        · rcases k13 with h | ⟨q, x, _, _, _, hxh, hxb, _⟩
          · have : gb < w.heap.size := hlt; omega
          · exact .inr ⟨⟨bg, al, hbag⟩, x, List.mem_of_getElem? hxh, hxb⟩
        · rcases k13 with h | ⟨q, x0, _, hq, _, hxh, hxb0, hxn, hxs, hfz⟩
          · have := (hr.heap.bags.tgs x hx).1
            rw [hxb] at this
            exact absurd this (Nat.not_lt.2 h)
          · obtain ⟨t', ht'⟩ := List.getElem?_of_mem hx
            have hle2 := (hbo.2 q t' x0 x hq hxh ht' (hxb.trans hxb0.symm)).1
            have hmm : s.2.length * i2.size ≤ (s.2.length + m.length) * i2.size := Nat.mul_le_mul_right _ (by omega)
            rw [hxn, hxs] at hle2
            refine ⟨Nat.le_trans hle2 hmm, fun k hk => ?_⟩
            rw [hxb]
            exact hfz k (Nat.lt_of_lt_of_le hk hle2)
        · rcases k13 with h | ⟨q, x0, _, hq, ha0, hxh, hxb0, _⟩
          · have := (hr.heap.bags.tgs x (List.mem_of_getElem? hx)).1
            rw [hxb] at this
            exact absurd this (Nat.not_lt.2 h)
          · have hqt := (hbo.2 q t x0 x hq hxh hx (hxb.trans hxb0.symm)).2 (hal t ht)
            subst hqt
            rw [ha0, List.getElem?_set_self (List.getElem?_eq_some_iff.1 hq).1] at ht
            cases ht)
    refine ⟨v', w', _, by simp [execOp, resolve, invoke, builtin, hvvx, hvvy, k1], r1, .d (.rt _ _ _ _ _ _ ?_ ?_), r2, r3⟩
    · rw [k6]
      have hlr : (s.2 ++ m).length = s.2.length + m.length := List.length_append
      have hfl : ((s.2 ++ m).flatMap enc).length = (s.2.length + m.length) * i2.size := by rw [flat_len henc, hlr]
      rw [hlr]
      refine .ro _ _ gb 0 c' (fun j => cur.getD j undef) (Array.getElem?_eq_some_iff.1 k7).1 (fun j hj _ => ⟨_, List.mem_append_right _ (List.mem_singleton.2 rfl), rfl, ?_⟩) k9 k10 (fun j dd hj => ?_) (fun j dd hj => ?_)
      · rw [hfl] at hj; simpa using hj
      · rw [List.flatMap_append] at hj
        obtain ⟨u, f1, _⟩ := k11 j dd hj
        rw [Nat.zero_add, cell_of_row w' gb j cur _ _ k7]
        simp [f1]
      · rw [List.flatMap_append] at hj
        obtain ⟨u, f1, f2⟩ := k11 j dd hj
        simpa [f1] using f2.step (stp_z Z r2)
    · refine .inr ⟨⟨gb, s.2.length + m.length, c', i2.size, te⟩, ?_, by simp, rfl, rfl, by rw [k6]; simp⟩
      show (M.h ++ [_])[al.length]? = _
      rw [hbo.1]
      simp
/-! ### Tags that are taken as less, or made -/
theorem op_le {o : Oper} {g' : G} (h : OpP P N o fr hp g) (hle : g.Le g') : OpP P N o fr hp g' := fun Z w M a hr => let ⟨v, h1, h2⟩ := h Z w M a hr; ⟨v, h1, hle _ _ _ _ h2⟩
theorem G.Le.unt {te : TypeId} {sz : Nat} {s : Tl α} : G.Le (.d (Slt te sz enc s)) (.d (Sl enc s.2)) := fun w O M v hv => by
  cases hv with
  | d h => cases h with
    | rt _ _ _ _ _ _ h _ => exact .d h
theorem G.Le.tagN {te : TypeId} {sz : Nat} : G.Le (.d (.v (.slice none 0 0))) (.d (Slt te sz enc (1, []))) := fun w O M v hv => by
  rw [vr_v hv]
  exact .d (.rt _ _ _ _ _ _ .nil ⟨_, rfl⟩)
theorem G.Le.tagF {te : TypeId} {sz : Nat} {l : List α} : G.Le (.d (Slf enc l)) (.d (Slt te sz enc (1, l))) := fun w O M v hv => by
  cases hv with
  | d h =>
    have h' := h.unrf
    cases h with
    | rf _ _ b off vs hb hO hm hc hv => exact .d (.rt _ _ _ _ _ _ h' ⟨_, rfl⟩)
/-- A new local, its slices with tags. -/
theorem ops_allocT (hΓ : TOK P Γ) (ks : List Nat) (gs : List G) {t : TypeId} {i : TI} (hi : Γ t = some i) (h1 : (i.zero.cells.toList.all (·.oneCell')) = true) (hle : G.LeAll (zeroX ks i) gs) : OpS P N ⟨some d, .alloc t, ty, pos, after, gd⟩ fr hp (.ptr hp.length 0) (hp ++ [.box t gs]) := fun Z w M a hr => by
  obtain ⟨_, inf, e1, e2, e3, e4⟩ := hΓ t i hi
  obtain ⟨hl, hg⟩ := hle.spec
  have hc : i.zero.cells.size = gs.length ∧ CellsR w (ownZ Z hp M) M i.zero.cells gs := by
    refine ⟨by rw [← hl]; simp [zeroX], fun j g hj => ?_⟩
    obtain ⟨g0, h0, hle0⟩ := hg j g hj
    obtain ⟨c, k1, k2, k3⟩ := zeroX_ok h1 j g0 h0
    exact ⟨c, k1, k2, hle0 _ _ _ _ k3⟩
  obtain ⟨r1, r2, r3⟩ := box_push (t := t) hr.heap hc
  refine ⟨.pointer (some ⟨w.heap.size, 0, none⟩), _, _, ?_, r1, .ptr (c := 0) ?_, r2, r3⟩
  · simp [execOp, Instr.alloc, zeroValue, typeInfo, e1, e4, newVar, newRow]
  · rw [← hr.heap.len]; simp
/-! ### Locals that are laid in whatever order -/
section
variable {hpL : List Ob} {ll hl bl : List Nat} {k : Nat} {QF : Fr → List Ob → Prop}
end
end
end Go.Gk
namespace Go.Gk
/-- An element set anew. -/
def updA {α : Type} (k : Int) (j : Nat) (v a : α) : α := if k = (j : Int) then v else a
def updL {α : Type} (k : Int) (v : α) : Nat → List α → List α
  | _, [] => []
  | j, a :: l => updA k j v a :: updL k v (j + 1) l
theorem updL_set {α : Type} {v : α} : ∀ (l : List α) (i j : Nat), updL ((i + j : Nat) : Int) v j l = l.set i v
  | [], i, j => by simp [updL]
  | a :: l, 0, j => by
    have key : ∀ (m : List α) (q : Nat), j < q → updL ((j : Nat) : Int) v q m = m := by
      intro m
      induction m with
      | nil => intro q _; rfl
      | cons b m ih => intro q hq; simp only [updL, ih (q + 1) (by omega)]; unfold updA; rw [if_neg (by omega)]
    simp only [updL, Nat.zero_add, List.set_cons_zero]
    rw [key l (j + 1) (by omega)]
    unfold updA
    rw [if_pos rfl]
  | a :: l, i + 1, j => by
    have := updL_set (v := v) l i (j + 1)
    rw [show i + (j + 1) = i + 1 + j by omega] at this
    simp only [updL, this, List.set_cons_succ]
    unfold updA
    rw [if_neg (by omega)]
theorem setAt_map {α β : Type} (f : α → β) (v : α) {l : List α} {i : Nat} (h : i < l.length) : setAt (l.map f) i [f v] = (updL (i : Int) v 0 l).map f := by
  have := updL_set (v := v) l i 0
  rw [Nat.add_zero] at this
  rw [this]
  refine List.ext_getElem? fun j => ?_
  rw [setAt_get (by simp; omega), List.map_set, List.getElem?_set]
  by_cases hj : i = j
  · subst hj; simp [h]
  · rw [if_neg (by simp; omega), if_neg hj]
section
variable {P : Program} {Γ : TypeId → Option TI} {F N : Nat} {Q : GPost} {fr fr' : Fr} {hp : List Ob} {ks : List Kt}
variable {α : Type} {enc : α → List D} {ops : Array Oper} {rest : List Oper} {g : G}
variable {d : Tmp} {op : Op} {ty : TypeId} {pos : String} {after : Array Edge} {gd' : Option (Nat × Bool)}
theorem op_elemArr (hΓ : TOK P Γ) {t e : TypeId} {i1 i2 : TI} {x y : Operand} {id off len : Nat} {l : List α} {z : α} {kd : IntKind} {k : Int} (hz : getZ l k = some z) (hl : l.length = len) (h1 : Γ t = some i1) (h1' : i1.desc = .array len e) (h2 : Γ e = some i2)
    (hx : fr.ev x = some (.ptr id off)) (hy : fr.ev y = some (.d (.v (.int kd k)))) : OpP P N ⟨some d, .indexAddr t x y, ty, pos, after, gd'⟩ fr hp (.ptr id (off + k.toNat * i2.size)) := fun Z w M a hr => by
  obtain ⟨i, rfl, hi, _⟩ := getZ_ok hz
  rw [hl] at hi
  obtain ⟨u1, _⟩ := hΓ t _ h1
  rw [h1'] at u1
  have hs := run_size' (P := P) (w := w) hΓ h2
  have hvx := hr.ev hx
  simp only [execOp, hr.ev_v hy]
  generalize a.eval x = vx at hvx
  cases hvx with
  | ptr hM =>
    rename_i b c
    refine ⟨.pointer (some ⟨b, off + i * i2.size, none⟩), ?_, .ptr hM⟩
    have : (0 : Int) ≤ (i : Int) ∧ (i : Int) < (len : Int) := by omega
    simp [Instr.indexAt, Instr.sureAddr, asIntOf, run_underlying u1, hs, this, Addr.add_lit, hi]
theorem op_loadArr (hΓ : TOK P Γ) {t tb : TypeId} {i : TI} {x : Operand} {id off : Nat} {l : List α} {z : α} {f : α → G} {gs : List G} {k : Int} (hz : getZ l k = some z) (hi : Γ t = some i) (hag : TypeDesc.isAgg i.desc = false) (hx : fr.ev x = some (.ptr id off)) (hoff : off = 0 + k.toNat * 1)
    (ho : hp[id]? = some (.box tb gs)) (hgs : gs = l.map f) : OpP P N ⟨some d, .load t x, ty, pos, after, gd'⟩ fr hp (f z) := by
  obtain ⟨j, rfl, hj, hz'⟩ := getZ_ok hz
  have e : off = j := by rw [hoff]; simp
  subst e
  refine pst_load hΓ ?_
  simp only [pst, hi, Option.bind_some, hx, ho]
  unfold loadG
  rw [hag, hgs]
  simp [hz']
theorem opu_setArr (hΓ : TOK P Γ) {t tb : TypeId} {x y : Operand} {i : TI} {id off : Nat} {l : List α} {z v : α} {f : α → G} {gs : List G} {hp2 : List Ob} {k : Int} (hz : getZ l k = some z) (hi : Γ t = some i) (hx : fr.ev x = some (.ptr id off)) (hoff : off = 0 + k.toNat * 1)
    (ho : hp[id]? = some (.box tb gs)) (hgs : gs = l.map f) (hy : fr.ev y = some (f v)) (hg : cellsG (f v) = some [f v]) (h1 : (f v).one = true) (hsz : Nat.beq 1 i.size = true) (hhp : hp.set id (.box tb ((updL k v 0 l).map f)) = hp2) :
    OpU P N ⟨none, .store t x y, ty, pos, after, gd'⟩ fr hp hp2 := by
  obtain ⟨j, rfl, hj, hz'⟩ := getZ_ok hz
  have e : off = j := by rw [hoff]; simp
  subst e
  subst hgs
  subst hhp
  rw [← setAt_map f v hj]
  exact opu_store hΓ hi hx ho hy hg (by simp [h1]) (by simpa using hsz) (Nat.ble_eq_true_of_le (by simp; omega))
/-! ### == on arrays of numbers -/
theorem run_equalIn_ints {t e : TypeId} {k : IntKind} {n d : Nat} (w : World) (hu : P.underlying t = some (.array n e)) (he : P.underlying e = some (.int k)) (hs : (sizeOf e).run P w = .ok 1 w) {xs ys : List Int} {X Y : Array Value}
    (hX : ∀ (j : Nat) (x : Int), xs[j]? = some x → X[j]? = some (.int k x)) (hY : ∀ (j : Nat) (x : Int), ys[j]? = some x → Y[j]? = some (.int k x)) (hx : xs.length = n) (hy : ys.length = n) :
    (Op.equalIn (d + 2) t (.agg X) (.agg Y)).run P w = .ok (decide (xs = ys)) w := by
  have hpk : P.plainKey e = true := by unfold Program.plainKey; rw [he]
  rw [Op.equalIn]
  simp only [Sem.run_bind, run_underlying hu, Result.andThen_ok, hs]
  rw [Std.Legacy.Range.forIn_eq_forIn_range']
  simp only [Std.Legacy.Range.size, Nat.sub_zero, Nat.add_sub_cancel, Nat.div_one, Nat.mul_one]
  have key : ∀ (m o : Nat), o + m = n → (forIn (m := Sem) (List.range' o m 1) ((none, ()) : Option Bool × Unit) fun i r => do
      let a ← part e X i
      let b ← part e Y i
      let q ← Op.equalIn (d + 1) e a b
      if (!q) = true then pure (ForInStep.done (some false, ())) else pure (ForInStep.yield (none, ()))).run P w = .ok (if xs.drop o = ys.drop o then (none, ()) else (some false, ())) w := by
    intro m
    induction m with
    | zero =>
      intro o ho
      rw [List.drop_eq_nil_of_le (by omega), List.drop_eq_nil_of_le (by omega)]
      simp
    | succ m ih =>
      intro o ho
      have hox : o < xs.length := by omega
      have hoy : o < ys.length := by omega
      rw [List.range'_succ, List.forIn_cons]
      simp only [Sem.run_bind, run_part_plain w hpk (hX o _ (List.getElem?_eq_getElem hox)), run_part_plain w hpk (hY o _ (List.getElem?_eq_getElem hoy)), Result.andThen_ok, run_equalIn_int w d e k k _ _ he]
      have e1 : xs.drop o = xs[o] :: xs.drop (o + 1) := List.drop_eq_getElem_cons hox
      have e2 : ys.drop o = ys[o] :: ys.drop (o + 1) := List.drop_eq_getElem_cons hoy
      by_cases hq : xs[o] = ys[o]
      · simp only [hq, beq_self_eq_true, Bool.not_true, Bool.false_eq_true, if_false, Sem.run_pure, Result.andThen_ok]
        rw [ih (o + 1) (by omega)]
        have : (xs.drop (o + 1) = ys.drop (o + 1)) = (xs.drop o = ys.drop o) := propext ⟨fun h => by rw [e1, e2, hq, h], fun h => by rw [e1, e2] at h; exact (List.cons.inj h).2⟩
        simp only [this]
      · have : ¬ xs.drop o = ys.drop o := fun h => by rw [e1, e2] at h; exact hq (List.cons.inj h).1
        rw [if_neg this]
        simp only [beq_eq_false_iff_ne.2 hq, Bool.not_false, if_true, Sem.run_pure, Result.andThen_ok]
  have k0 := key n 0 (by omega)
  simp only [List.drop_zero] at k0
  rw [k0]
  by_cases h : xs = ys
  · simp [h]
  · simp [h]
theorem arr_cells {w : World} {O : Ow} {M : Mp} {k : IntKind} {l : List Int} {xs : List G} {v : Value} (hl : xs = l.map fun z => .d (.v (.int k z))) (h : VR w O M (.agg xs) v) : ∃ X, v = .agg X ∧ ∀ (j : Nat) (x : Int), l[j]? = some x → X[j]? = some (.int k x) := by
  subst hl
  cases h with
  | agg hl ih =>
    rename_i X
    refine ⟨X, rfl, fun j x hj => ?_⟩
    have hlt : j < X.size := by rw [hl]; simpa using (List.getElem?_eq_some_iff.1 hj).1
    have e : X[j]? = some X[j] := Array.getElem?_eq_getElem hlt
    have := ih j (.d (.v (.int k x))) X[j] (by rw [List.getElem?_map, hj]; rfl) e
    rw [e, vr_v this]
theorem op_neArr (hΓ : TOK P Γ) {t e t' : TypeId} {i1 i2 : TI} {x y : Operand} {l1 l2 : List Int} {xs ys : List G} {k : IntKind} {n : Nat} (h1 : Γ t = some i1) (h1' : i1.desc = .array n e) (h2 : Γ e = some i2) (h2' : i2.desc = .int k) (hsz : i2.size = 1) (hm : P.eqGuardType P.depth t = false)
    (hx : fr.ev x = some (.agg xs)) (hy : fr.ev y = some (.agg ys)) (hxs : xs = l1.map fun z => .d (.v (.int k z))) (hys : ys = l2.map fun z => .d (.v (.int k z))) (hl1 : l1.length = n) (hl2 : l2.length = n) : OpP P N ⟨some d, .binOp .neq t x y t', ty, pos, after, gd'⟩ fr hp (B (!decide (l1 = l2))) := fun Z w M a hr => by
  obtain ⟨X, eX, hX⟩ := arr_cells hxs (hr.ev hx)
  obtain ⟨Y, eY, hY⟩ := arr_cells hys (hr.ev hy)
  obtain ⟨u1, _⟩ := hΓ t _ h1
  obtain ⟨u2, _⟩ := hΓ e _ h2
  rw [h1'] at u1
  rw [h2'] at u2
  have hs := run_size' (P := P) (w := w) hΓ h2
  rw [hsz] at hs
  have h3 := run_equalIn_ints (d := 9998) w u1 u2 hs hX hY hl1 hl2
  refine ⟨.bool (!decide (l1 = l2)), ?_, .d (.v _ rfl)⟩
  simp only [execOp, eX, eY, Sem.run_bind, run_eqGuard_agg w _ t _ _ _ _ hm, Result.andThen_ok, run_neq_struct, h3]
  rfl
/-! ### Loops taken apart -/
/-- A loop of n rounds at most, told round by round. -/
def Rn (P : Program) (F N : Nat) (Q : GPost) (c : Code) (ks : List Kt) : Nat → Fr → List Ob → Prop
  | 0 => fun _ _ => False
  | n + 1 => fun fr hp => St.holds P F N Q (.code c (.mid (Rn P F N Q c ks n) :: ks)) fr hp
end
end Go.Gk
