/-
  THE GHOST LOGIC, PART 26: append that gives a new name; names that move.
-/
import Derived.Test.YtpgnhnjhpnbelaaGreatDoorGk25
set_option linter.unusedVariables false
set_option linter.unusedSimpArgs false
namespace Go.Gk

section
variable {P : Program} {Γ : TypeId → Option TI} {F N : Nat} {Q : GPost} {fr fr' : Fr} {hp hp' : List Ob} {ks : List Kt}
variable {α : Type} {enc : α → List D} {ops : Array Oper} {rest : List Oper} {g : G}
variable {d : Tmp} {op : Op} {ty : TypeId} {pos : String} {after : Array Edge} {gd' : Option (Nat × Bool)}

/-- APPEND to a row; the row that comes out has a new name. -/
theorem ops_append (hΓ : TOK P Γ) {t te : TypeId} {i1 i2 : TI} {x y : Operand} {id n m : Nat} {ds ys : List D} (h1 : Γ t = some i1) (h1' : i1.desc = .slice te) (h2 : Γ te = some i2) (hz : Nat.beq i2.zero.cells.size i2.size = true) (hz0 : Nat.blt 0 i2.size = true)
    (hx : fr.ev x = some (.sl id n)) (ho : hp[id]? = some (.row te i2.size n ds)) (hy : fr.ev y = some (.d (.ro m ys))) (hl : ys.length = m * i2.size) (hb : (n + m) * i2.bytes ≤ 140737488355328) (hm : n + m ≤ maxLen) :
    OpS P N ⟨some d, .call ⟨.builtin .append, #[x, y], #[t, t]⟩, ty, pos, after, gd'⟩ fr hp (.sl hp.length (n + m)) (hp.set id .dead ++ [.row te i2.size (n + m) (ds ++ ys)]) := by
  intro Z w M a hr
  obtain ⟨u1, _⟩ := hΓ t _ h1
  rw [h1'] at u1
  obtain ⟨_, inf, e1, e2, e3, e4⟩ := hΓ te _ h2
  have hid : id < hp.length := (List.getElem?_eq_some_iff.1 ho).1
  have hidM : id < M.length := by rw [hr.heap.len]; exact hid
  have hzs : i2.zero.cells.size = inf.size := by rw [e2]; exact Nat.eq_of_beq_eq_true hz
  have hvx := hr.ev hx
  have hvy := hr.ev hy
  have hob := hr.heap.obj id _ _ ho (List.getElem?_eq_getElem hidM)
  generalize hmo : M[id] = mo at hob
  have hMid : M[id]? = some mo := by rw [List.getElem?_eq_getElem hidM, hmo]
  -- the source
  have hsrc : ∃ news : List Value, ((a.eval y = .slice none 0 0 ∧ m = 0 ∧ news = []) ∨ ∃ b off cap, a.eval y = .slice (some ⟨b, off, none⟩) m cap ∧ (∀ (j : Nat) (u : Value), news[j]? = some u → w.cell? ⟨b, off + j, none⟩ = some u)) ∧
      news.length = ys.length ∧ (∀ (j : Nat) (u : Value) (d : D), news[j]? = some u → ys[j]? = some d → VD w (ownZ Z hp M) d u) ∧ ∀ u ∈ news, u.oneCell' = true := by
    cases hvy with
    | d hd =>
      rcases data_cells hd with ⟨e, rfl, rfl⟩ | ⟨b, off, cap, vs, e, hl, hc, hv, h1⟩
      · exact ⟨[], .inl ⟨e, rfl, rfl⟩, rfl, fun j u d h => by simp at h, fun u h => by cases h⟩
      · exact ⟨vs, .inr ⟨b, off, cap, e, hc⟩, hl, hv, h1⟩
  obtain ⟨news, hsrc1, hsrc2, hsrc3, hsrc4⟩ := hsrc
  -- the row
  have hrow : ∃ cs0 : Array Value, ((mo = none ∧ a.eval x = .slice none 0 0 ∧ n = 0) ∨ ∃ b c, mo = some (b, c) ∧ a.eval x = .slice (some ⟨b, 0, none⟩) n c ∧ w.heap[b]? = some (.cells cs0 te (0, 0)) ∧ cs0.size = c * inf.size ∧ n ≤ c ∧ c ≤ maxLen) ∧
      (mo = none → ds = []) ∧ ds.length = n * inf.size ∧ (mo ≠ none → DataR w (ownZ Z hp M) cs0 ds) := by
    cases mo with
    | none =>
      obtain ⟨rfl, rfl⟩ := hob
      refine ⟨#[], .inl ⟨rfl, ?_, rfl⟩, fun _ => rfl, by simp, fun h => absurd rfl h⟩
      generalize a.eval x = vx at hvx
      cases hvx with
      | sl h _ _ => rw [hMid] at h; cases h
      | slnil h => rfl
    | some bc =>
      obtain ⟨b, c⟩ := bc
      obtain ⟨hdl, cs, hb, hcs, hnc, hcm, hcr⟩ := hob
      refine ⟨cs, .inr ⟨b, c, rfl, ?_, hb, by rw [hcs, e2], hnc, hcm⟩, (fun h => by cases h), by rw [hdl, e2], fun _ => hcr⟩
      generalize a.eval x = vx at hvx
      cases hvx with
      | sl h _ _ => rw [hMid] at h; cases h; rfl
      | slnil h => rw [hMid] at h; cases h
  obtain ⟨cs0, hrow1, hrow2, hrow3, hrow4⟩ := hrow
  obtain ⟨v', w', mo', hrun, g1, g2, g3, g4, hres⟩ := app_core (P := P) (tyo := ty) mo u1 e1 e4 hzs (by rw [e2]; exact nblt.1 hz0) hrow1 hsrc1 (by rw [hsrc2, hl, e2]) hsrc4 hm (by rw [e3]; exact hb)
  have hMold : ∀ i, i < M.length → (M ++ [mo'])[i]? = M[i]? := fun i hi => List.getElem?_append_left hi
  have hMnew : (M ++ [mo'])[hp.length]? = some mo' := by rw [← hr.heap.len]; simp
  have hcase : ∀ (i : Nat) (o : Ob), (hp.set id .dead ++ [.row te i2.size (n + m) (ds ++ ys)])[i]? = some o → (i < hp.length ∧ i ≠ id ∧ hp[i]? = some o) ∨ (i = id ∧ o = .dead) ∨ (i = hp.length ∧ o = .row te i2.size (n + m) (ds ++ ys)) := fun i o h => by
    by_cases hi : i < hp.length
    · rw [List.getElem?_append_left (by simpa using hi)] at h
      by_cases hii : i = id
      · subst hii; simp [hid] at h; exact .inr (.inl ⟨rfl, h.symm⟩)
      · rw [List.getElem?_set_ne (Ne.symm hii)] at h; exact .inl ⟨hi, hii, h⟩
    · rw [List.getElem?_append_right (by simp; omega)] at h
      simp only [List.length_set] at h
      have h0 : i - hp.length = 0 := by
        cases hk : i - hp.length with
        | zero => rfl
        | succ k => rw [hk] at h; simp at h
      rw [h0] at h
      simp at h
      exact .inr (.inr ⟨by omega, h.symm⟩)
  have hlive : ∀ (c : Nat) (b : Nat), mo = some (b, c) → own hp M b := fun c b e => ⟨id, _, c, ho, rfl, by rw [hMid, e]⟩
  have hkeep : ∀ b, b < w.heap.size → ¬ own hp M b → w'.heap[b]? = w.heap[b]? := fun b hb hn => by
    rcases hres with ⟨_, _, _, rfl, _⟩ | ⟨b', c', cur, r1, r2, r3, r4, r5, r6, r7, r8, r9, r10⟩
    · rfl
    · refine r9 b hb fun e => ?_
      subst e
      rcases r10 with ⟨c, hc⟩ | h
      · exact hn (hlive c b hc)
      · omega
  have hown : ∀ b, b < w.heap.size → own (hp.set id .dead ++ [.row te i2.size (n + m) (ds ++ ys)]) (M ++ [mo']) b → own hp M b := by
    rintro b hb ⟨i, o, c, h1, h2, h3⟩
    rcases hcase i o h1 with ⟨e1, e2, e3⟩ | ⟨rfl, rfl⟩ | ⟨rfl, rfl⟩
    · rw [hMold i (by rw [hr.heap.len]; exact e1)] at h3
      exact ⟨i, o, c, e3, h2, h3⟩
    · cases h2
    · rw [hMnew] at h3
      rcases hres with ⟨r1, _⟩ | ⟨b', c', cur, r1, r2, r3, r4, r5, r6, r7, r8, r9, r10⟩
      · rw [r1] at h3; cases h3
      · rw [r1] at h3
        cases h3
        rcases r10 with ⟨c, hc⟩ | h
        · exact hlive c b hc
        · omega
  have hst : Stp w (own hp M) w' (own (hp.set id .dead ++ [.row te i2.size (n + m) (ds ++ ys)]) (M ++ [mo'])) := ⟨g1, hkeep, hown, g2, g3, g4⟩
  have hob' : ∀ i o c b, i ≠ id → hp[i]? = some o → o.live = true → M[i]? = some (some (b, c)) → w'.heap[b]? = w.heap[b]? := fun i o c b hi h1 h2 h3 => by
    have hlt := hr.heap.block_lt ⟨i, o, c, h1, h2, h3⟩
    rcases hres with ⟨_, _, _, rfl, _⟩ | ⟨b', c', cur, r1, r2, r3, r4, r5, r6, r7, r8, r9, r10⟩
    · rfl
    · refine r9 b hlt fun e => ?_
      subst e
      rcases r10 with ⟨c2, hc⟩ | h
      · exact hi (hr.heap.inj i id o _ b c c2 h1 ho h2 rfl h3 (by rw [hMid, hc]))
      · omega
  have hnew : ∀ i o b c, i ≠ id → hp[i]? = some o → o.live = true → M[i]? = some (some (b, c)) → ∀ c', mo' = some (b, c') → False := fun i o b c hi h1 h2 h3 c' he => by
    have hlt := hr.heap.block_lt ⟨i, o, c, h1, h2, h3⟩
    rcases hres with ⟨r1, _⟩ | ⟨b', c2, cur, r1, r2, r3, r4, r5, r6, r7, r8, r9, r10⟩
    · rw [r1] at he; cases he
    · rw [r1] at he
      cases he
      rcases r10 with ⟨c3, hc⟩ | h
      · exact hi (hr.heap.inj i id o _ b c c3 h1 ho h2 rfl h3 (by rw [hMid, hc]))
      · omega
  refine ⟨v', w', M ++ [mo'], ?_, ⟨by simp [hr.heap.len], fun i o m' h1 h2 => ?_, fun b hb hz => ?_, fun b hz => Nat.lt_of_lt_of_le (hr.heap.old b hz) g1, hr.heap.amb_stp hst, fun i j oi oj b c c' hi hj li lj mi mj => ?_⟩, ?_, hst, ⟨by simp [hr.heap.len], fun i hi => hMold i (by rw [hr.heap.len]; exact hi)⟩⟩
  · simp [execOp, resolve, invoke, builtin, hrun]
  · rcases hcase i o h1 with ⟨e1', e2', e3'⟩ | ⟨rfl, rfl⟩ | ⟨rfl, rfl⟩
    · rw [hMold i (by rw [hr.heap.len]; exact e1')] at h2
      have hob := hr.heap.obj i o m' e3' h2
      exact hob.move (k := M.length) (stp_z Z hst) hMold hob.bel fun b c e hl2 => by subst e; exact hob' i o c b e2' e3' hl2 h2
    · cases m' <;> trivial
    · rw [hMnew] at h2
      cases h2
      rcases hres with ⟨rfl, r2, r3, r4, rfl⟩ | ⟨b', c', cur, rfl, r2, r3, r4, r5, r6, r7, r8, r9, r10⟩
      · have : ds = [] := hrow2 rfl
        have hm0 : m = 0 := by omega
        subst hm0
        have : ys = [] := List.eq_nil_of_length_eq_zero (by simpa using hl)
        subst this
        exact ⟨by simp [*], r3⟩
      · refine ⟨by rw [List.length_append, hrow3, hl, e2, Nat.add_mul], cur, r3, by rw [r4, e2], r5, r6, fun j dd hj => ?_⟩
        by_cases hjn : j < ds.length
        · rw [List.getElem?_append_left hjn] at hj
          have hmo : mo ≠ none := fun e => by have := hrow2 e; subst this; simp at hjn
          obtain ⟨v, f1, f2⟩ := hrow4 hmo j dd hj
          exact ⟨v, by rw [r7 j (by rw [← hrow3]; exact hjn) hmo]; exact f1, f2.step (stp_z Z hst)⟩
        · rw [List.getElem?_append_right (by omega)] at hj
          have hlt : j - ds.length < news.length := by rw [hsrc2]; exact (List.getElem?_eq_some_iff.1 hj).1
          have hn := List.getElem?_eq_getElem hlt
          refine ⟨news[j - ds.length], ?_, (hsrc3 _ _ dd hn hj).step (stp_z Z hst)⟩
          have := r8 _ _ hn
          rw [← hrow3] at this
          rw [← this]
          congr 1
          omega
  · by_cases hb' : b < w.heap.size
    · exact hr.heap.apart b (hown b hb' hb) hz
    · exact absurd (hr.heap.old b hz) hb'
  · rcases hcase i oi hi with ⟨a1, a2, a3⟩ | ⟨rfl, rfl⟩ | ⟨rfl, rfl⟩
    · rw [hMold i (by rw [hr.heap.len]; exact a1)] at mi
      rcases hcase j oj hj with ⟨b1, b2, b3⟩ | ⟨rfl, rfl⟩ | ⟨rfl, rfl⟩
      · rw [hMold j (by rw [hr.heap.len]; exact b1)] at mj
        exact hr.heap.inj i j oi oj b c c' a3 b3 li lj mi mj
      · cases lj
      · rw [hMnew] at mj
        exact (hnew i oi b c a2 a3 li mi c' (by cases mj; rfl)).elim
    · cases li
    · rw [hMnew] at mi
      rcases hcase j oj hj with ⟨b1, b2, b3⟩ | ⟨rfl, rfl⟩ | ⟨rfl, rfl⟩
      · rw [hMold j (by rw [hr.heap.len]; exact b1)] at mj
        exact (hnew j oj b c' b2 b3 lj mj c (by cases mi; rfl)).elim
      · cases lj
      · rfl
  · rcases hres with ⟨rfl, rfl, r3, r4, rfl⟩ | ⟨b', c', cur, rfl, rfl, r3, r4, r5, r6, r7, r8, r9, r10⟩
    · rw [r3]; exact .slnil hMnew
    · exact .sl hMnew r5 r6

theorem ops_appendT (hΓ : TOK P Γ) {t te : TypeId} {i1 i2 : TI} {x y : Operand} {id n : Nat} {l m r : List α} (hz : apd l m = some r) (h1 : Γ t = some i1) (h1' : i1.desc = .slice te) (h2 : Γ te = some i2) (hzc : Nat.beq i2.zero.cells.size i2.size = true) (hz0 : Nat.blt 0 i2.size = true)
    (hx : fr.ev x = some (.sl id n)) (hn : n = l.length) (ho : hp[id]? = some (.row te i2.size l.length (l.flatMap enc))) (hy : fr.ev y = some (.d (Sl enc m))) (henc : ∀ y, (enc y).length = i2.size) (hbytes : Nat.ble (4294967296 * i2.bytes) 140737488355328 = true) :
    OpS P N ⟨some d, .call ⟨.builtin .append, #[x, y], #[t, t]⟩, ty, pos, after, gd'⟩ fr hp (.sl hp.length r.length) (hp.set id .dead ++ [.row te i2.size r.length (r.flatMap enc)]) := by
  obtain ⟨rfl, hle⟩ := apd_ok hz
  subst hn
  have hb := Nat.le_of_ble_eq_true hbytes
  have hmul : (l.length + m.length) * i2.bytes ≤ 4294967296 * i2.bytes := Nat.mul_le_mul_right _ hle
  have := ops_append (P := P) (N := N) (d := d) (ty := ty) (pos := pos) (after := after) (gd' := gd') hΓ h1 h1' h2 hzc hz0 hx ho hy (flat_len henc m) (by omega) (by simp only [maxLen]; omega)
  rw [List.length_append, List.flatMap_append]
  exact this

/-! ### Names that move -/
theorem VR.renx {w : World} {O : Nat → Prop} {Mc M : Mp} {f : Nat → Nat} {k : Nat} (hM : ∀ i x, i ≠ k → Mc[i]? = some x → M[f i]? = some x) {g : G} {v : Value} (h : VR w O Mc g v) (hb : g.has k = false) : VR w O M (g.ren f) v := by
  have hne : ∀ {i : Nat}, Nat.beq i k = false → i ≠ k := fun h e => by subst e; rw [Nat.beq_refl] at h; cases h
  induction h with
  | d h => exact .d h
  | agg hl _ ih =>
    simp only [G.ren, G.renAll_eq]
    refine .agg (by simpa using hl) fun j g v hg hv => ?_
    rw [List.getElem?_map] at hg
    obtain ⟨g0, hg0, rfl⟩ := Option.map_eq_some_iff.1 hg
    exact ih j g0 v hg0 hv (G.hasAny_spec hb j g0 hg0)
  | ptr h => exact .ptr (hM _ _ (hne hb) h)
  | rp vs hb' hO hc hv => exact .rp vs hb' hO hc hv
  | sl h hn hm => exact .sl (hM _ _ (hne hb) h) hn hm
  | slnil h => exact .slnil (hM _ _ (hne hb) h)
  | slo h hn hm => exact .slo (hM _ _ (hne hb) h) hn hm
  | slonil h => exact .slonil (hM _ _ (hne hb) h)
  | map h => exact .map (hM _ _ (hne hb) h)
  | fn l1 l2 _ _ i1 i2 =>
    simp only [G.has, Bool.or_eq_false_iff] at hb
    simp only [G.ren, G.renAll_eq]
    refine .fn (by simpa using l1) (by simpa using l2) (fun j g v hg hv => ?_) (fun j g v hg hv => ?_)
    · rw [List.getElem?_map] at hg
      obtain ⟨g0, hg0, rfl⟩ := Option.map_eq_some_iff.1 hg
      exact i1 j g0 v hg0 hv (G.hasAny_spec hb.1 j g0 hg0)
    · rw [List.getElem?_map] at hg
      obtain ⟨g0, hg0, rfl⟩ := Option.map_eq_some_iff.1 hg
      exact i2 j g0 v hg0 hv (G.hasAny_spec hb.2 j g0 hg0)
  | tup hl _ ih =>
    simp only [G.ren, G.renAll_eq]
    refine .tup (by simpa using hl) fun j g v hg hv => ?_
    rw [List.getElem?_map] at hg
    obtain ⟨g0, hg0, rfl⟩ := Option.map_eq_some_iff.1 hg
    exact ih j g0 v hg0 hv (G.hasAny_spec hb j g0 hg0)
  | junk v => exact .junk v
end
end Go.Gk
