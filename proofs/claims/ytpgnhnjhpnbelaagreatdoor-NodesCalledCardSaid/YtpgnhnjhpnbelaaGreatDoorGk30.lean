/-
  THE GHOST LOGIC, PART 30: views of own rows from an offset on; append to a view, as data.
-/
import Derived.Test.YtpgnhnjhpnbelaaGreatDoorGk29
import Derived.ArgAppend
set_option linter.unusedVariables false
set_option linter.unusedSimpArgs false
namespace Go.Gk

theorem setCells_keep (b : Nat) : ∀ (vs : List Value) (o : Nat) (w : World), (w.setCells b o vs).heap.size = w.heap.size ∧ (w.setCells b o vs).os = w.os ∧ (w.setCells b o vs).tape = w.tape ∧ (w.setCells b o vs).output = w.output ∧ ∀ k, k ≠ b → (w.setCells b o vs).heap[k]? = w.heap[k]?
  | [], o, w => ⟨rfl, rfl, rfl, rfl, fun _ _ => rfl⟩
  | v :: r, o, w => by
    obtain ⟨h1, h2, h3, h4, h5⟩ := setCells_keep b r (o + 1) (w.setCell ⟨b, o, none⟩ v)
    simp only [World.setCells]
    refine ⟨h1.trans (by simp [World.setCell]), h2.trans rfl, h3.trans rfl, h4.trans rfl, fun k hk => (h5 k hk).trans ?_⟩
    simp [World.setCell, Array.getElem?_modify, Ne.symm hk]

section
variable {P : Program} {Γ : TypeId → Option TI} {F N : Nat} {Q : GPost} {fr fr' : Fr} {hp hp' : List Ob} {ks : List Kt}
variable {α : Type} {enc : α → List D} {ops : Array Oper} {rest : List Oper} {g : G}
variable {d : Tmp} {op : Op} {ty : TypeId} {pos : String} {after : Array Edge} {gd' : Option (Nat × Bool)}

/-- What append does with a view. -/
theorem appv_core {w : World} {t te tyo : TypeId} {inf : TypeInfo} {z : Value} {b off n m cap : Nat} {xv : Value} {olds news : List Value} (hu : P.underlying t = some (.slice te)) (hi : P.info? te = some inf) (hz : inf.zero = some z) (hzs : z.cells.size = inf.size) (hz0 : 0 < inf.size)
    (hbw : b < w.heap.size) (hlo : olds.length = n * inf.size) (holds : ∀ (j : Nat) (u : Value), olds[j]? = some u → w.cell? ⟨b, off + j, none⟩ = some u) (hnc : n ≤ cap) (hcm : cap ≤ maxLen)
    (hroomc : ∀ j, j < (cap - n) * inf.size → (w.cell? ⟨b, off + n * inf.size + j, none⟩).isSome = true) (hroomf : ∀ j, w.frozen? ⟨b, j, none⟩ = false)
    (hx : (xv = .slice none 0 0 ∧ m = 0 ∧ news = []) ∨ ∃ b off cap, xv = .slice (some ⟨b, off, none⟩) m cap ∧ (∀ (j : Nat) (u : Value), news[j]? = some u → w.cell? ⟨b, off + j, none⟩ = some u)) (hl : news.length = m * inf.size) (h1 : ∀ u ∈ news, u.oneCell' = true)
    (hm : n + m ≤ maxLen) (hb : (n + m) * inf.bytes ≤ 140737488355328) :
    ∃ w' b' off' c', (Builtin.append_ #[t, t] tyo #[.slice (some ⟨b, off, none⟩) n cap, xv]).run P w = .ok (.slice (some ⟨b', off', none⟩) (n + m) c') w' ∧ w.heap.size ≤ w'.heap.size ∧ w'.os = w.os ∧ w'.tape = w.tape ∧ w'.output = w.output ∧
      n + m ≤ c' ∧ c' ≤ maxLen ∧ b' < w'.heap.size ∧ (∀ (j : Nat) (u : Value), (olds ++ news)[j]? = some u → w'.cell? ⟨b', off' + j, none⟩ = some u) ∧ (∀ k, k < w.heap.size → k ≠ b → w'.heap[k]? = w.heap[k]?) ∧ (b' = b ∨ w.heap.size ≤ b') := by
  rcases hx with ⟨rfl, rfl, rfl⟩ | ⟨xb, xo, xc, rfl, hxcell⟩
  · refine ⟨w, b, off, cap, ?_, Nat.le_refl _, rfl, rfl, rfl, by omega, hcm, hbw, fun j u h => holds j u (by simpa using h), fun _ _ _ => rfl, .inl rfl⟩
    simp [Builtin.append_, run_underlying hu, sizeOf, typeInfo, hi, Builtin.lenOf, Builtin.firstCells, hnc, storeCells]
  · have hxc' : ∀ (j : Nat) (u : Value), news[j]? = some u → w.cell? ((⟨xb, xo, none⟩ : Addr).add j) = some u := fun j u hj => by rw [Addr.add_lit]; exact hxcell j u hj
    by_cases hroom : n + m ≤ cap
    · have hin : ∀ j, j < news.length → j < (cap - n) * inf.size := fun j hj => by
        rw [hl] at hj
        exact Nat.lt_of_lt_of_le hj (Nat.mul_le_mul_right _ (by omega))
      have hr := run_append_room_cells (P := P) w t tyo te inf hu hi b off n cap ⟨xb, xo, none⟩ m xc news hl hxc' h1 hroom (fun j hj => hroomc j (hin j hj)) (fun j _ => hroomf _)
      obtain ⟨k1, k2, k3, k4, k5⟩ := setCells_keep b news (off + n * inf.size) w
      refine ⟨_, b, off, cap, hr, Nat.le_of_eq k1.symm, k2, k3, k4, hroom, hcm, by rw [k1]; exact hbw, fun j u hj => ?_, fun k _ hk => k5 k hk, .inl rfl⟩
      by_cases hjn : j < olds.length
      · rw [List.getElem?_append_left hjn] at hj
        rw [World.cell?_setCells_out b news _ w _ (fun _ _ => .inl (by show off + j < _; omega))]
        exact holds j u hj
      · rw [List.getElem?_append_right (by omega)] at hj
        have hlt : j - olds.length < news.length := (List.getElem?_eq_some_iff.1 hj).1
        have := World.cell?_setCells_in b news (off + n * inf.size) w (fun j hj => hroomc j (hin j hj)) (j - olds.length) hlt
        have e : off + n * inf.size + (j - olds.length) = off + j := by omega
        rw [e] at this
        rw [this, ← hj, List.getElem?_eq_getElem hlt]
    · obtain ⟨v', w', r1, r2, r3⟩ := run_append_arg_grows (P := P) w t tyo te inf z inf.size inf.bytes hu hi hz rfl rfl hzs hz0 ⟨b, off, none⟩ n cap olds hlo (fun j u hj => by rw [Addr.add_lit]; exact holds j u hj) ⟨xb, xo, none⟩ m xc news hl hxc' (by omega) hm hb
      rcases r2.2 with ⟨rfl, hn0⟩ | ⟨g, c', cur, rfl, q1, q2, q3, q4, q5, q6⟩
      · omega
      · have hglt : g < w'.heap.size := (Array.getElem?_eq_some_iff.1 q2).1
        have hcells := r2.cells (g := g) rfl
        exact ⟨w', g, 0, c', r1, r3.size, r3.os, r3.tape, r3.output, q3, q4, hglt, fun j u hj => by have := hcells j u hj; rw [Addr.add_lit] at this; exact this, fun k hk _ => r3.block k hk (by simp), .inr q1⟩

theorem cellD {w : World} {O : Nat → Prop} {cs : Array Value} {ds : List D} (h : DataR w O cs ds) (j : Nat) (hj : j < ds.length) : ∃ v, cs[j]? = some v ∧ VD w O (ds[j]'hj) v := h j _ (List.getElem?_eq_getElem hj)

/-- APPEND to a view that reaches the row's end: what comes out is data; the row is let go. -/
theorem ops_appendTail (hΓ : TOK P Γ) {t te : TypeId} {i1 i2 : TI} {x y : Operand} {id o n m : Nat} {ds ys : List D} (h1 : Γ t = some i1) (h1' : i1.desc = .slice te) (h2 : Γ te = some i2) (hz : Nat.beq i2.zero.cells.size i2.size = true) (hz0 : Nat.blt 0 i2.size = true) (ho0 : Nat.blt 0 o = true)
    (hx : fr.ev x = some (.slo id i2.size o n)) (ho : hp[id]? = some (.row te i2.size (o + n) ds)) (hy : fr.ev y = some (.d (.ro m ys))) (hl : ys.length = m * i2.size) (hb : (n + m) * i2.bytes ≤ 140737488355328) (hm : n + m ≤ maxLen) :
    OpS P N ⟨some d, .call ⟨.builtin .append, #[x, y], #[t, t]⟩, ty, pos, after, gd'⟩ fr hp (.d (.ro (n + m) (ds.drop (o * i2.size) ++ ys))) (hp.set id .dead) := by
  intro Z w M a hr
  obtain ⟨u1, _⟩ := hΓ t _ h1
  rw [h1'] at u1
  obtain ⟨_, inf, e1, e2, e3, e4⟩ := hΓ te _ h2
  have hid : id < hp.length := (List.getElem?_eq_some_iff.1 ho).1
  have hidM : id < M.length := by rw [hr.heap.len]; exact hid
  have hzs : i2.zero.cells.size = inf.size := by rw [e2]; exact Nat.eq_of_beq_eq_true hz
  have hvx := hr.ev hx
  have hvy := hr.ev hy
  have hsrc : ∃ news : List Value, ((a.eval y = .slice none 0 0 ∧ m = 0 ∧ news = []) ∨ ∃ b off cap, a.eval y = .slice (some ⟨b, off, none⟩) m cap ∧ (∀ (j : Nat) (u : Value), news[j]? = some u → w.cell? ⟨b, off + j, none⟩ = some u)) ∧
      news.length = ys.length ∧ (∀ (j : Nat) (u : Value) (d : D), news[j]? = some u → ys[j]? = some d → VD w (ownZ Z hp M) d u) ∧ ∀ u ∈ news, u.oneCell' = true := by
    cases hvy with
    | d hd =>
      rcases data_cells hd with ⟨e, rfl, rfl⟩ | ⟨b, off, cap, vs, e, hl, hc, hv, h1⟩
      · exact ⟨[], .inl ⟨e, rfl, rfl⟩, rfl, fun j u d h => by simp at h, fun u h => by cases h⟩
      · exact ⟨vs, .inr ⟨b, off, cap, e, hc⟩, hl, hv, h1⟩
  obtain ⟨news, hsrc1, hsrc2, hsrc3, hsrc4⟩ := hsrc
  generalize hvv : a.eval x = vx at hvx
  cases hvx with
  | slonil h => exact absurd (nblt.1 ho0) (by omega)
  | slo hM hn hcm =>
  rename_i b c
  have hob := hr.heap.obj id _ _ ho (List.getElem?_eq_getElem hidM)
  have hMid : M[id]? = some (some (b, c)) := hM
  rw [List.getElem?_eq_getElem hidM] at hMid
  rw [Option.some.inj hMid] at hob
  obtain ⟨hdl, cs, hbk, hcs, hnc, hcm', hcr⟩ := hob
  have hlive : own hp M b := ⟨id, _, c, ho, rfl, hM⟩
  have hblt : b < w.heap.size := (Array.getElem?_eq_some_iff.1 hbk).1
  have hcell : ∀ j, w.cell? ⟨b, j, none⟩ = cs[j]? := fun j => cell_of_row w b j cs te _ hbk
  let off := if c = o then 0 else o * i2.size
  have hoff : ∀ j, j < (c - o) * i2.size → off + j = o * i2.size + j := fun j hj => by
    simp only [off]
    split
    · rename_i h; subst h; simp at hj
    · rfl
  have hcmul : (c - o) * i2.size = c * i2.size - o * i2.size := Nat.mul_sub_right_distrib c o i2.size
  have hole : o * i2.size ≤ c * i2.size := Nat.mul_le_mul_right _ (by omega)
  have hnle : n * i2.size ≤ (c - o) * i2.size := Nat.mul_le_mul_right _ (by omega)
  have hdd : (ds.drop (o * i2.size)).length = n * i2.size := by rw [List.length_drop, hdl, Nat.add_mul]; omega
  let olds := (cs.toList.drop (o * i2.size)).take (n * i2.size)
  have hol : olds.length = n * i2.size := by simp only [olds, List.length_take, List.length_drop, Array.length_toList, hcs]; omega
  have holds : ∀ (j : Nat) (u : Value), olds[j]? = some u → cs[o * i2.size + j]? = some u ∧ j < n * i2.size := fun j u hj => by
    have hlt : j < n * i2.size := by rw [← hol]; exact (List.getElem?_eq_some_iff.1 hj).1
    simp only [olds] at hj
    rw [List.getElem?_take_of_lt hlt, List.getElem?_drop] at hj
    exact ⟨by simpa using hj, hlt⟩
  obtain ⟨w', b', off', c', hrun, g1, g2, g3, g4, g5, g6, g7, g8, g9, g10⟩ := appv_core (P := P) (w := w) (tyo := ty) (b := b) (off := off) (n := n) (m := m) (cap := c - o) (xv := a.eval y) (olds := olds) (news := news) u1 e1 e4 hzs (by rw [e2]; exact nblt.1 hz0) hblt (by rw [hol, e2])
    (fun j u hj => by
      obtain ⟨q1, q2⟩ := holds j u hj
      rw [hcell, hoff j (by omega)]; exact q1) (by omega) (by omega)
    (fun j hj => by
      rw [e2, Nat.mul_sub_right_distrib] at hj
      rw [hcell, e2, show off + n * i2.size + j = off + (n * i2.size + j) by omega, hoff _ (by omega)]
      rw [Array.getElem?_eq_getElem (by rw [hcs]; omega)]; rfl)
    (fun j => by simp [World.frozen?, hbk]) hsrc1 (by rw [hsrc2, hl, e2]) hsrc4 hm (by rw [e3]; exact hb)
  have hcase : ∀ (i : Nat) (o' : Ob), (hp.set id .dead)[i]? = some o' → (i ≠ id ∧ hp[i]? = some o') ∨ (i = id ∧ o' = .dead) := fun i o' h => by
    by_cases hii : i = id
    · subst hii; simp [hid] at h; exact .inr ⟨rfl, h.symm⟩
    · rw [List.getElem?_set_ne (Ne.symm hii)] at h; exact .inl ⟨hii, h⟩
  have hown : ∀ b, own (hp.set id .dead) M b → own hp M b := by
    rintro b2 ⟨i, o', c2, q1, q2, q3⟩
    rcases hcase i o' q1 with ⟨_, q4⟩ | ⟨rfl, rfl⟩
    · exact ⟨i, o', c2, q4, q2, q3⟩
    · cases q2
  have hne : ∀ b2, own (hp.set id .dead) M b2 → b2 ≠ b := by
    rintro b2 ⟨i, o', c2, q1, q2, q3⟩ rfl
    rcases hcase i o' q1 with ⟨q5, q4⟩ | ⟨rfl, rfl⟩
    · exact q5 (hr.heap.inj i id o' _ b2 c2 c q4 ho q2 rfl q3 hM)
    · cases q2
  have hst : Stp w (own hp M) w' (own (hp.set id .dead) M) := ⟨g1, fun k hk hn => g9 k hk fun e => by subst e; exact hn hlive, fun b _ h => hown b h, g2, g3, g4⟩
  have hb'own : ¬ ownZ Z (hp.set id .dead) M b' := by
    rintro (h | h)
    · rcases g10 with rfl | h'
      · exact hne _ h rfl
      · exact absurd (hr.heap.block_lt (hown _ h)) (by omega)
    · rcases g10 with rfl | h'
      · exact hr.heap.apart _ hlive (Z.hv _ h)
      · exact absurd (hr.heap.old _ (Z.hv _ h)) (by omega)
  refine ⟨.slice (some ⟨b', off', none⟩) (n + m) c', w', M, ?_, ⟨by simp [hr.heap.len], fun i o' m' q1 q2 => ?_, fun b2 hb2 hz => hr.heap.apart b2 (hown b2 hb2) hz, fun b hz => Nat.lt_of_lt_of_le (hr.heap.old b hz) g1, hr.heap.amb_stp hst, fun i j oi oj b c c' hi hj li lj mi mj => ?_⟩, ?_, hst, ⟨Nat.le_of_eq hr.heap.len.symm, fun i hi => rfl⟩⟩
  · simp only [off] at hrun
    simp [execOp, resolve, invoke, builtin, hvv, hrun]
  · rcases hcase i o' q1 with ⟨q5, q4⟩ | ⟨rfl, rfl⟩
    · have hob := hr.heap.obj i o' m' q4 q2
      exact hob.move (k := M.length) (stp_z Z hst) (fun _ _ => rfl) hob.bel fun b2 c2 e hl2 => by
        subst e
        exact g9 b2 (hr.heap.block_lt ⟨i, o', c2, q4, hl2, q2⟩) (hne b2 ⟨i, o', c2, q1, hl2, q2⟩)
    · cases m' <;> trivial
  · rcases hcase i oi hi with ⟨a1, a2⟩ | ⟨rfl, rfl⟩
    · rcases hcase j oj hj with ⟨b1, b2⟩ | ⟨rfl, rfl⟩
      · exact hr.heap.inj i j oi oj b c c' a2 b2 li lj mi mj
      · cases lj
    · cases li
  · refine .d (.ro _ _ b' off' c' (fun j => ((olds ++ news)[j]?).getD default) g7 hb'own g5 g6 (fun j dd hj => ?_) (fun j dd hj => ?_))
    all_goals
      have hjl : j < (olds ++ news).length := by
        rw [List.length_append, hol, hsrc2]
        have := (List.getElem?_eq_some_iff.1 hj).1
        rwa [List.length_append, hdd] at this
      rw [List.getElem?_eq_getElem hjl]
    · exact g8 j _ (List.getElem?_eq_getElem hjl)
    · show VD w' _ dd ((olds ++ news)[j])
      have hu := List.getElem?_eq_getElem hjl
      generalize (olds ++ news)[j] = u at hu
      refine VD.step (stp_z Z hst) ?_
      by_cases hjn : j < n * i2.size
      · rw [List.getElem?_append_left (by omega)] at hu hj
        obtain ⟨q1, _⟩ := holds j u hu
        rw [List.getElem?_drop] at hj
        obtain ⟨v, f1, f2⟩ := hcr _ dd hj
        rw [q1] at f1
        cases f1
        exact f2
      · rw [List.getElem?_append_right (by omega)] at hu hj
        rw [hol] at hu
        rw [hdd] at hj
        exact hsrc3 _ u dd hu hj

/-- A view of a row from an offset on. -/
theorem op_viewZ (hΓ : TOK P Γ) {t e : TypeId} {i1 i2 : TI} {x : Operand} {lo : Option Operand} {n id k : Nat} {l r : List α} (hz : subZ l (k : Int) (l.length : Int) = some r) (h1 : Γ t = some i1) (h1' : i1.desc = .slice e) (h2 : Γ e = some i2) (hx : fr.ev x = some (.sl id n)) (hn : n = l.length) (hlo : fr.bound lo 0 = some (k : Int)) :
    OpP P N ⟨some d, .slice t x lo none none, ty, pos, after, gd'⟩ fr hp (.slo id i2.size k r.length) := fun Z w M a hr => by
  obtain ⟨u1, _⟩ := hΓ t _ h1
  rw [h1'] at u1
  have hs := run_size' (P := P) (w := w) hΓ h2
  obtain ⟨a', b', ea, eb, e1, e2, rfl⟩ := subZ_ok hz
  obtain rfl : a' = k := by omega
  obtain rfl : b' = l.length := by omega
  have hrl : ((l.take l.length).drop a').length = l.length - a' := by simp
  rw [hrl]
  have hvx := hr.ev hx
  simp only [execOp, Option.map_none]
  generalize a.eval x = vx at hvx
  cases hvx with
  | slnil hM =>
    have h0 : l.length = 0 := hn.symm
    have ha0 : a' = 0 := by omega
    subst ha0
    have hb : (Instr.sliceBounds true 0 0 (lo.map a.eval) none none).run P w = .ok (0, 0, 0) w := run_bounds (P := P) (w := w) hr (b := true) (l := 0) (len := 0) (cap := 0) (hi := none) hlo rfl (Nat.le_refl _) (Nat.le_refl _)
    rw [h0]
    exact ⟨.slice none 0 0, by simp [Instr.sliceAt, Instr.slice, run_underlying u1, hb, hs], .slonil hM⟩
  | sl hM hnc hm =>
    rename_i b c
    subst hn
    have hb : (Instr.sliceBounds true l.length c (lo.map a.eval) none none).run P w = .ok (a', l.length, c) w := run_bounds (P := P) (w := w) hr (b := true) (l := a') (len := l.length) (cap := c) (hi := none) hlo rfl e1 hnc
    refine ⟨.slice (some ⟨b, if c = a' then 0 else a' * i2.size, none⟩) (l.length - a') (c - a'), ?_, .slo hM (by omega) hm⟩
    by_cases hc : c = a'
    · subst hc; simp [Instr.sliceAt, Instr.slice, run_underlying u1, hb, hs]
    · simp [Instr.sliceAt, Instr.slice, run_underlying u1, hb, hs, hc, Addr.add_lit]; try omega

/-- APPEND to a view, on typed data. -/
theorem ops_appendTailT (hΓ : TOK P Γ) {t te : TypeId} {i1 i2 : TI} {x y : Operand} {id k n sz : Nat} {l m r z : List α} (hz : subZ l (k : Int) (l.length : Int) = some z) (ha : apd z m = some r) (h1 : Γ t = some i1) (h1' : i1.desc = .slice te) (h2 : Γ te = some i2) (hzc : Nat.beq i2.zero.cells.size i2.size = true) (hz0 : Nat.blt 0 i2.size = true) (hk : Nat.blt 0 k = true)
    (hx : fr.ev x = some (.slo id sz k n)) (hsz : sz = i2.size) (hn : n = z.length) (ho : hp[id]? = some (.row te i2.size l.length (l.flatMap enc))) (hy : fr.ev y = some (.d (Sl enc m))) (henc : ∀ y, (enc y).length = i2.size) (hbytes : Nat.ble (4294967296 * i2.bytes) 140737488355328 = true) :
    OpS P N ⟨some d, .call ⟨.builtin .append, #[x, y], #[t, t]⟩, ty, pos, after, gd'⟩ fr hp (.d (Sl enc r)) (hp.set id .dead) := by
  subst hsz; subst hn
  obtain ⟨rfl, hle⟩ := apd_ok ha
  obtain ⟨a', b', ea, eb, e1, e2, rfl⟩ := subZ_ok hz
  obtain rfl : a' = k := by omega
  obtain rfl : b' = l.length := by omega
  have hrl : ((l.take l.length).drop a').length = l.length - a' := by simp
  have hb := Nat.le_of_ble_eq_true hbytes
  have hmul : (((l.take l.length).drop a').length + m.length) * i2.bytes ≤ 4294967296 * i2.bytes := Nat.mul_le_mul_right _ hle
  have := ops_appendTail (P := P) (N := N) (d := d) (ty := ty) (pos := pos) (after := after) (gd' := gd') hΓ (o := a') (n := ((l.take l.length).drop a').length) h1 h1' h2 hzc hz0 hk hx (by rw [ho, hrl]; congr 2; omega) hy (flat_len henc m) (by omega) (by simp only [maxLen]; omega)
  have e : Sl enc ((l.take l.length).drop a' ++ m) = .ro (((l.take l.length).drop a').length + m.length) ((l.flatMap enc).drop (a' * i2.size) ++ m.flatMap enc) := by
    unfold Sl
    rw [List.length_append, List.flatMap_append, List.take_length, flat_drop henc]
  rw [e]
  exact this
end
end Go.Gk
