/-
  THE GHOST LOGIC, PART 8: append; literals.
-/
import Derived.Test.YtpgnhnjhpnbelaaGreatDoorGk7
import Derived.Laws.AppendOwnNone
import Derived.Laws.OwnMore
set_option linter.unusedVariables false
set_option linter.unusedSimpArgs false
namespace Go.Gk

theorem heap_old (w : World) (o : Obj) (k : Nat) (h : k < w.heap.size) : (w.alloc o).heap[k]? = w.heap[k]? := by
  show (w.heap.push o)[k]? = _
  rw [Array.getElem?_push, if_neg (by omega)]

mutual
def G.has (k : Nat) : G → Bool
  | .d _ | .rp _ | .junk => false
  | .ptr id _ | .sl id _ | .slo id _ _ _ | .map id => Nat.beq id k
  | .agg gs | .tup gs => G.hasAny k gs
  | .fn _ a b => G.hasAny k a || G.hasAny k b
def G.hasAny (k : Nat) : List G → Bool
  | [] => false
  | g :: r => G.has k g || G.hasAny k r
end
def Ob.has (k : Nat) : Ob → Bool
  | .box _ gs => G.hasAny k gs
  | .row _ _ _ _ => false
  | .map _ _ => false
  | .dead => false

theorem G.hasAny_spec {k : Nat} : ∀ {gs : List G}, G.hasAny k gs = false → ∀ (j : Nat) (g : G), gs[j]? = some g → g.has k = false
  | [], _, j, g, h => by simp at h
  | g0 :: r, hb, j, g, h => by
    simp only [G.hasAny, Bool.or_eq_false_iff] at hb
    cases j with
    | zero => simp at h; subst h; exact hb.1
    | succ j => exact G.hasAny_spec hb.2 j g (by simpa using h)

theorem nbeq {a b : Nat} (h : Nat.beq a b = false) : a ≠ b := fun e => by subst e; rw [Nat.beq_refl] at h; cases h

/-- The reading stays, if no name of it has turned. -/
theorem VR.not {w O w' O'} {M M' : Mp} {k : Nat} (h : Stp w O w' O') (hM : ∀ i, i ≠ k → i < M.length → M'[i]? = M[i]?) {g : G} {v : Value} (hv : VR w O M g v) (hb : g.has k = false) : VR w' O' M' g v := by
  induction hv with
  | d hd => exact .d (hd.step h)
  | agg hl _ ih => exact .agg hl fun j g v hg hv => ih j g v hg hv (G.hasAny_spec hb j g hg)
  | ptr hp => exact .ptr ((hM _ (nbeq hb) (Mp.lt hp)).trans hp)
  | rp vs hb' hO hc hv =>
    refine .rp vs (Nat.lt_of_lt_of_le hb' h.size) (fun h1 => hO (h.own _ hb' h1)) (fun j d hd => ?_) (fun j d hd => (hv j d hd).step h)
    rw [← hc j d hd]
    exact World.cell?_of_block (h.keep _ hb' hO)
  | sl hp hn hm => exact .sl ((hM _ (nbeq hb) (Mp.lt hp)).trans hp) hn hm
  | slnil hp => exact .slnil ((hM _ (nbeq hb) (Mp.lt hp)).trans hp)
  | slo hp hn hm => exact .slo ((hM _ (nbeq hb) (Mp.lt hp)).trans hp) hn hm
  | slonil hp => exact .slonil ((hM _ (nbeq hb) (Mp.lt hp)).trans hp)
  | map hp => exact .map ((hM _ (nbeq hb) (Mp.lt hp)).trans hp)
  | fn l1 l2 _ _ i1 i2 =>
    simp only [G.has, Bool.or_eq_false_iff] at hb
    exact .fn l1 l2 (fun j g v hg hv => i1 j g v hg hv (G.hasAny_spec hb.1 j g hg)) (fun j g v hg hv => i2 j g v hg hv (G.hasAny_spec hb.2 j g hg))
  | tup hl _ ih => exact .tup hl fun j g v hg hv => ih j g v hg hv (G.hasAny_spec hb j g hg)
  | junk v => exact .junk v

theorem ObR.not {w O w' O'} {M M' : Mp} {k : Nat} (h : Stp w O w' O') (hM : ∀ i, i ≠ k → i < M.length → M'[i]? = M[i]?) {o : Ob} {m} (ho : ObR w O M o m) (hb : o.has k = false)
    (hblk : ∀ b c, m = some (b, c) → o.live = true → w'.heap[b]? = w.heap[b]?) : ObR w' O' M' o m := by
  cases o with
  | dead => trivial
  | map _ es =>
    match m, ho with
    | some (b, c), ⟨ms, cl, h1, h2, h3, hc⟩ => exact ⟨ms, cl, (hblk b c rfl rfl).trans h1, h2, h3, fun j k' g hg => let ⟨e, e1, e2, e3⟩ := hc j k' g hg; ⟨e, e1, e2, e3.step h⟩⟩
  | box t gs =>
    match m, ho with
    | some (b, c), ⟨cs, h1, h2, hc⟩ => exact ⟨cs, (hblk b c rfl rfl).trans h1, h2, fun j g hg => let ⟨v, e1, e2, e3⟩ := hc j g hg; ⟨v, e1, e2, e3.not h hM (G.hasAny_spec hb j g hg)⟩⟩
  | row t sz n gs =>
    match m, ho with
    | some (b, c), ⟨h0, cs, h1, h2, h3, h4, hc⟩ => exact ⟨h0, cs, (hblk b c rfl rfl).trans h1, h2, h3, h4, fun j d hd => let ⟨v, e1, e2⟩ := hc j d hd; ⟨v, e1, e2.step h⟩⟩
    | none, h => exact h

def Fr.drop (k : Nat) : Fr → Fr
  | [] => []
  | (t, g) :: r => bif g.has k then Fr.drop k r else (t, g) :: Fr.drop k r
-- a slot that is dropped must hide no older entry of itself
def Fr.clean (k : Nat) : Fr → Fr
  | [] => []
  | (t, g) :: r => (t, bif g.has k then .junk else g) :: Fr.clean k r

theorem Fr.clean_get {k : Nat} : ∀ {fr : Fr} {t : Nat} {g : G}, (fr.clean k).get t = some g → g = .junk ∨ (fr.get t = some g ∧ g.has k = false)
  | [], _, _, h => by cases h
  | (t0, g0) :: r, t, g, h => by
    simp only [Fr.clean, Fr.get] at h ⊢
    cases hk : Nat.beq t0 t with
    | true =>
      rw [hk] at h
      cases hh : g0.has k with
      | true => rw [hh] at h; cases h; exact .inl rfl
      | false => rw [hh] at h; cases h; exact .inr ⟨rfl, hh⟩
    | false => rw [hk] at h; exact Fr.clean_get h
theorem Fr.clean_some {k : Nat} : ∀ {fr : Fr} {t : Nat} {g : G}, (fr.clean k).get t = some g → ∃ g', fr.get t = some g'
  | [], _, _, h => by cases h
  | (t0, g0) :: r, t, g, h => by
    simp only [Fr.clean, Fr.get] at h ⊢
    cases hk : Nat.beq t0 t with
    | true => exact ⟨g0, rfl⟩
    | false => rw [hk] at h; exact Fr.clean_some h

section
variable {P : Program} {Γ : TypeId → Option TI} {F N : Nat} {fr : Fr} {hp : List Ob} {g : G} {Q : GPost} {ops : Array Oper} {rest : List Oper}
variable {d : Tmp} {ty : TypeId} {pos : String} {after : Array Edge}

/-- The cells of data that is read, as a list of values. -/
theorem data_cells {w : World} {O : Nat → Prop} {n : Nat} {xs : List D} {v : Value} (h : VD w O (.ro n xs) v) :
    (v = .slice none 0 0 ∧ n = 0 ∧ xs = []) ∨ ∃ (b off cap : Nat) (vs : List Value), v = .slice (some ⟨b, off, none⟩) n cap ∧ vs.length = xs.length ∧ (∀ (j : Nat) (u : Value), vs[j]? = some u → w.cell? ⟨b, off + j, none⟩ = some u) ∧ (∀ (j : Nat) (u : Value) (d : D), vs[j]? = some u → xs[j]? = some d → VD w O d u) ∧ ∀ u ∈ vs, u.oneCell' = true := by
  cases h with
  | nil => exact .inl ⟨rfl, rfl, rfl⟩
  | ro _ _ b off cap vs hb hO hn hm hc hv =>
    have hx : ∀ j u, (xs.zipIdx.map fun p => vs p.2)[j]? = some u → j < xs.length ∧ u = vs j := fun j u hj => by
      rw [List.getElem?_map] at hj
      obtain ⟨p, hp, rfl⟩ := Option.map_eq_some_iff.1 hj
      have hlt : j < xs.zipIdx.length := (List.getElem?_eq_some_iff.1 hp).1
      simp at hlt
      rw [List.getElem?_zipIdx] at hp
      obtain ⟨y, hy, e⟩ := Option.map_eq_some_iff.1 hp
      subst e
      simp [hlt]
    refine .inr ⟨b, off, cap, xs.zipIdx.map fun p => vs p.2, rfl, by simp, fun j u hj => ?_, fun j u d hj hd => ?_, fun u hu => ?_⟩
    · obtain ⟨h1, rfl⟩ := hx j u hj
      exact hc j _ (List.getElem?_eq_getElem h1)
    · obtain ⟨h1, rfl⟩ := hx j u hj
      exact hv j d hd
    · obtain ⟨j, hj⟩ := List.getElem?_of_mem hu
      obtain ⟨h1, rfl⟩ := hx j u hj
      exact (hv j _ (List.getElem?_eq_getElem h1)).one

/-- What append does with a row, case by case. -/
theorem app_core {w : World} {t te tyo : TypeId} {inf : TypeInfo} {z : Value} {n m : Nat} {sv xv : Value} {cs0 : Array Value} {news : List Value} (mo : Option (Nat × Nat)) (hu : P.underlying t = some (.slice te)) (hi : P.info? te = some inf) (hz : inf.zero = some z) (hzs : z.cells.size = inf.size) (hz0 : 0 < inf.size)
    (hs : (mo = none ∧ sv = .slice none 0 0 ∧ n = 0) ∨ ∃ b c, mo = some (b, c) ∧ sv = .slice (some ⟨b, 0, none⟩) n c ∧ w.heap[b]? = some (.cells cs0 te (0, 0)) ∧ cs0.size = c * inf.size ∧ n ≤ c ∧ c ≤ maxLen)
    (hx : (xv = .slice none 0 0 ∧ m = 0 ∧ news = []) ∨ ∃ b off cap, xv = .slice (some ⟨b, off, none⟩) m cap ∧ (∀ j u, news[j]? = some u → w.cell? ⟨b, off + j, none⟩ = some u)) (hl : news.length = m * inf.size) (h1 : ∀ u ∈ news, u.oneCell' = true)
    (hm : n + m ≤ maxLen) (hb : (n + m) * inf.bytes ≤ 140737488355328) :
    ∃ v' w' mo', (Builtin.append_ #[t, t] tyo #[sv, xv]).run P w = .ok v' w' ∧ w.heap.size ≤ w'.heap.size ∧ w'.os = w.os ∧ w'.tape = w.tape ∧ w'.output = w.output ∧
      ((mo' = none ∧ v' = .slice none 0 0 ∧ n + m = 0 ∧ w' = w ∧ mo = none) ∨ ∃ b' c' cur, mo' = some (b', c') ∧ v' = .slice (some ⟨b', 0, none⟩) (n + m) c' ∧ w'.heap[b']? = some (.cells cur te (0, 0)) ∧ cur.size = c' * inf.size ∧ n + m ≤ c' ∧ c' ≤ maxLen ∧
        (∀ j, j < n * inf.size → mo ≠ none → cur[j]? = cs0[j]?) ∧ (∀ j u, news[j]? = some u → cur[n * inf.size + j]? = some u) ∧ (∀ k, k < w.heap.size → k ≠ b' → w'.heap[k]? = w.heap[k]?) ∧ ((∃ c, mo = some (b', c)) ∨ b' = w.heap.size)) := by
  have hsmall : n + m ≤ 9223372036854775807 := by simp only [maxLen] at hm; omega
  have hxc : ∀ b off cap, xv = .slice (some ⟨b, off, none⟩) m cap → (∀ j u, news[j]? = some u → w.cell? ⟨b, off + j, none⟩ = some u) → ∀ j u, news[j]? = some u → w.cell? ((⟨b, off, none⟩ : Addr).add j) = some u := fun b off cap _ h j u hj => by rw [Addr.add_lit]; exact h j u hj
  rcases hx with ⟨rfl, rfl, rfl⟩ | ⟨xb, xo, xc, rfl, hxcell⟩
  · -- nothing is appended
    rcases hs with ⟨rfl, rfl, rfl⟩ | ⟨b, c, rfl, rfl, hb', hcs, hnc, hcm⟩
    · refine ⟨.slice none 0 0, w, none, ?_, Nat.le_refl _, rfl, rfl, rfl, .inl ⟨rfl, rfl, rfl, rfl, rfl⟩⟩
      simp [Builtin.append_, run_underlying hu, sizeOf, typeInfo, hi, Builtin.lenOf, Builtin.firstCells]
    · refine ⟨.slice (some ⟨b, 0, none⟩) n c, w, some (b, c), ?_, Nat.le_refl _, rfl, rfl, rfl, .inr ⟨b, c, cs0, rfl, rfl, hb', hcs, hnc, hcm, fun _ _ _ => rfl, fun j u h => by simp at h, fun _ _ _ => rfl, .inl ⟨c, rfl⟩⟩⟩
      simp [Builtin.append_, run_underlying hu, sizeOf, typeInfo, hi, Builtin.lenOf, Builtin.firstCells, hnc, storeCells]
  · have hxc' := hxc xb xo xc rfl hxcell
    rcases hs with ⟨rfl, rfl, rfl⟩ | ⟨b, c, rfl, rfl, hb', hcs, hnc, hcm⟩
    · by_cases hm0 : m = 0
      · subst hm0
        have hn : news = [] := List.eq_nil_of_length_eq_zero (by simpa using hl)
        subst hn
        refine ⟨.slice none 0 0, w, none, ?_, Nat.le_refl _, rfl, rfl, rfl, .inl ⟨rfl, rfl, rfl, rfl, rfl⟩⟩
        simp [Builtin.append_, run_underlying hu, sizeOf, typeInfo, hi, Builtin.lenOf, Builtin.firstCells, loadCells, loadCellsFrom]
      · have hr := run_append_nil (P := P) w t tyo te inf z hu hi hz ⟨xb, xo, none⟩ m xc news hl hxc' (by omega) (by omega) (by simp only [Nat.zero_add] at hb; omega)
        have hge := grownCap_ge w m 0 te
        have hcm : grownCap w m 0 te ≤ maxLen := grownCap_le_maxLen w m 0 te (by omega)
        refine ⟨_, _, some (w.heap.size, grownCap w m 0 te), hr, by simp, rfl, rfl, rfl, .inr ⟨w.heap.size, _, _, rfl, by simp, heap_alloc_new w.drew _, ?_, by omega, hcm, fun j hj => by simp at hj, fun j u hj => ?_, fun k hk hne => Gk.heap_old w.drew _ k hk, .inr rfl⟩⟩
        · simp only [Array.size_append, List.size_toArray, size_zeroCells, hzs, hl, ← Nat.add_mul]
          congr 1
          omega
        · have hlt : j < news.length := (List.getElem?_eq_some_iff.1 hj).1
          rw [Nat.zero_mul, Nat.zero_add, Array.getElem?_append_left (by simpa using hlt)]
          simpa using hj
    · by_cases hroom : n + m ≤ c
      · have hfit : n * inf.size + news.length ≤ cs0.size := by rw [hl, hcs, ← Nat.add_mul]; exact Nat.mul_le_mul_right _ hroom
        have hr := run_append_room (P := P) w t tyo te inf hu hi b n c cs0 hb' ⟨xb, xo, none⟩ m xc news hl hxc' h1 hroom hfit
        refine ⟨_, _, some (b, c), hr, by simp, rfl, rfl, rfl, .inr ⟨b, c, _, rfl, rfl, setRow_heap w b cs0 _ te _ hb', ?_, hroom, hcm, fun j hj _ => ?_, fun j u hj => ?_, fun k _ hne => setRow_other w b k _ hne, .inl ⟨c, rfl⟩⟩⟩
        · simp only [List.size_toArray, List.length_append, List.length_take, List.length_drop, Array.length_toList]
          omega
        · rw [List.getElem?_toArray, List.append_assoc, List.getElem?_append_left (by simp; omega), List.getElem?_take_of_lt hj]
          simp
        · have hlt : j < news.length := (List.getElem?_eq_some_iff.1 hj).1
          have e : (cs0.toList.take (n * inf.size)).length = n * inf.size := by simp; omega
          rw [List.getElem?_toArray, List.append_assoc, List.getElem?_append_right (by omega), e, List.getElem?_append_left (by omega)]
          simpa using hj
      · have holds : ∀ j u, (cs0.toList.take (n * inf.size))[j]? = some u → w.cell? ((⟨b, 0, none⟩ : Addr).add j) = some u := fun j u hj => by
          rw [Addr.add_lit, Nat.zero_add, cell_of_row w b j cs0 te _ hb']
          rw [List.getElem?_take] at hj
          split at hj
          · simpa using hj
          · cases hj
        have hxl : (cs0.toList.take (n * inf.size)).length = n * inf.size := by
          have := Nat.mul_le_mul_right inf.size hnc
          simp; omega
        have hr := run_append_grow (P := P) w t tyo te inf z hu hi hz ⟨b, 0, none⟩ n c (cs0.toList.take (n * inf.size)) hxl holds ⟨xb, xo, none⟩ m xc news hl hxc' (by omega) (by omega) (growslice_fits (by omega) hb)
        have hge := grownCap_ge w (n + m) c te
        have hcm : grownCap w (n + m) c te ≤ maxLen := grownCap_le_maxLen w (n + m) c te hm
        refine ⟨_, _, some (w.heap.size, grownCap w (n + m) c te), hr, by simp, rfl, rfl, rfl, .inr ⟨w.heap.size, _, _, rfl, rfl, heap_alloc_new w.drew _, ?_, hge, hcm, fun j hj _ => ?_, fun j u hj => ?_, fun k hk hne => Gk.heap_old w.drew _ k hk, .inr rfl⟩⟩
        · simp only [Array.size_append, List.size_toArray, size_zeroCells, hzs, hl, hxl, ← Nat.add_mul]
          congr 1
          omega
        · rw [Array.append_assoc, Array.getElem?_append_left (by simpa [hxl] using hj)]
          rw [List.getElem?_toArray, List.getElem?_take_of_lt hj]
          simp
        · have hlt : j < news.length := (List.getElem?_eq_some_iff.1 hj).1
          rw [Array.append_assoc, Array.getElem?_append_right (by simp [hxl]), Array.getElem?_append_left (by simp [hxl]; exact hlt)]
          simpa [hxl] using hj

/-- APPEND to a row of one's own. -/
theorem eo_append (hΓ : TOK P Γ) {t te : TypeId} {i1 i2 : TI} {x y : Operand} {id n m : Nat} {ds ys : List D} (h1 : Γ t = some i1) (h1' : i1.desc = .slice te) (h2 : Γ te = some i2) (hz : Nat.beq i2.zero.cells.size i2.size = true) (hz0 : Nat.blt 0 i2.size = true)
    (hx : fr.ev x = some (.sl id n)) (ho : hp[id]? = some (.row te i2.size n ds)) (hy : fr.ev y = some (.d (.ro m ys))) (hl : ys.length = m * i2.size) (hb : (n + m) * i2.bytes ≤ 140737488355328) (hm : n + m ≤ maxLen)
    (hno : (hp.all fun o => !o.has id) = true) (hd : Nat.blt d N = true) (hFid : Nat.ble F id = true)
    (k : EO P F N ops rest Q ((d, .sl id (n + m)) :: fr.clean id) (hp.set id (.row te i2.size (n + m) (ds ++ ys)))) :
    EO P F N ops (⟨some d, .call ⟨.builtin .append, #[x, y], #[t, t]⟩, ty, pos, after, none⟩ :: rest) Q fr hp := by
  intro Z w0 O0 M0 w M a hs ha hr
  refine wpList_plain rfl fun K hK => ?_
  obtain ⟨u1, _⟩ := hΓ t _ h1
  rw [h1'] at u1
  obtain ⟨_, inf, e1, e2, e3, e4⟩ := hΓ te _ h2
  have hid : id < hp.length := (List.getElem?_eq_some_iff.1 ho).1
  have hidM : id < M.length := by rw [hr.heap.len]; exact hid
  have hzs : i2.zero.cells.size = inf.size := by rw [e2]; exact Nat.eq_of_beq_eq_true hz
  have hvx := hr.ev hx
  have hvy := hr.ev hy
  have hob := hr.heap.obj id _ _ ho (List.getElem?_eq_getElem hidM)
  generalize hmo : M[id] = mo at hob
  have hMid : M[id]? = some mo := by rw [List.getElem?_eq_getElem hidM, hmo]
  -- the source
  have hsrc : ∃ news : List Value, ((a.eval y = .slice none 0 0 ∧ m = 0 ∧ news = []) ∨ ∃ b off cap, a.eval y = .slice (some ⟨b, off, none⟩) m cap ∧ (∀ (j : Nat) (u : Value), news[j]? = some u → w.cell? ⟨b, off + j, none⟩ = some u)) ∧
      news.length = ys.length ∧ (∀ (j : Nat) (u : Value) (d : D), news[j]? = some u → ys[j]? = some d → VD w (ownZ Z hp M) d u) ∧ ∀ u ∈ news, u.oneCell' = true := by
    cases hvy with
    | d hd =>
      rcases data_cells hd with ⟨e, rfl, rfl⟩ | ⟨b, off, cap, vs, e, hl, hc, hv, h1⟩
      · exact ⟨[], .inl ⟨e, rfl, rfl⟩, rfl, fun j u d h => by simp at h, fun u h => by cases h⟩
      · exact ⟨vs, .inr ⟨b, off, cap, e, hc⟩, hl, hv, h1⟩
  obtain ⟨news, hsrc1, hsrc2, hsrc3, hsrc4⟩ := hsrc
  -- the row
  have hrow : ∃ cs0 : Array Value, ((mo = none ∧ a.eval x = .slice none 0 0 ∧ n = 0) ∨ ∃ b c, mo = some (b, c) ∧ a.eval x = .slice (some ⟨b, 0, none⟩) n c ∧ w.heap[b]? = some (.cells cs0 te (0, 0)) ∧ cs0.size = c * inf.size ∧ n ≤ c ∧ c ≤ maxLen) ∧
      (mo = none → ds = []) ∧ ds.length = n * inf.size ∧ (mo ≠ none → DataR w (ownZ Z hp M) cs0 ds) := by
    cases mo with
    | none =>
      obtain ⟨rfl, rfl⟩ := hob
      refine ⟨#[], .inl ⟨rfl, ?_, rfl⟩, fun _ => rfl, by simp, fun h => absurd rfl h⟩
      generalize a.eval x = vx at hvx
      cases hvx with
      | sl h _ _ => rw [hMid] at h; cases h
      | slnil h => rfl
    | some bc =>
      obtain ⟨b, c⟩ := bc
      obtain ⟨hdl, cs, hb, hcs, hnc, hcm, hcr⟩ := hob
      refine ⟨cs, .inr ⟨b, c, rfl, ?_, hb, by rw [hcs, e2], hnc, hcm⟩, (fun h => by cases h), by rw [hdl, e2], fun _ => hcr⟩
      generalize a.eval x = vx at hvx
      cases hvx with
      | sl h _ _ => rw [hMid] at h; cases h; rfl
      | slnil h => rw [hMid] at h; cases h
  obtain ⟨cs0, hrow1, hrow2, hrow3, hrow4⟩ := hrow
  obtain ⟨v', w', mo', hrun, g1, g2, g3, g4, hres⟩ := app_core (P := P) (tyo := ty) mo u1 e1 e4 hzs (by rw [e2]; exact nblt.1 hz0) hrow1 hsrc1 (by rw [hsrc2, hl, e2]) hsrc4 hm (by rw [e3]; exact hb)
  -- the new map
  have hM' : ∀ i, i ≠ id → i < M.length → (M.set id mo')[i]? = M[i]? := fun i hi _ => List.getElem?_set_ne (Ne.symm hi)
  have hM'id : (M.set id mo')[id]? = some mo' := by simp [hidM]
  let hp' := hp.set id (.row te i2.size (n + m) (ds ++ ys))
  have hset : ∀ i, i ≠ id → hp'[i]? = hp[i]? := fun i hi => List.getElem?_set_ne (Ne.symm hi)
  have hsetid : hp'[id]? = some (.row te i2.size (n + m) (ds ++ ys)) := by simp [hp', hid]
  have hlive : ∀ (c : Nat) (b : Nat), mo = some (b, c) → own hp M b := fun c b e => ⟨id, _, c, ho, rfl, by rw [hMid, e]⟩
  have hkeep : ∀ b, b < w.heap.size → ¬ own hp M b → w'.heap[b]? = w.heap[b]? := fun b hb hn => by
    rcases hres with ⟨_, _, _, rfl, _⟩ | ⟨b', c', cur, r1, r2, r3, r4, r5, r6, r7, r8, r9, r10⟩
    · rfl
    · refine r9 b hb fun e => ?_
      subst e
      rcases r10 with ⟨c, hc⟩ | h
      · exact hn (hlive c b hc)
      · omega
  have hown : ∀ b, b < w.heap.size → own hp' (M.set id mo') b → own hp M b := by
    rintro b hb ⟨i, o, c, h1, h2, h3⟩
    by_cases hi : i = id
    · subst hi
      rw [hM'id] at h3
      rcases hres with ⟨r1, _⟩ | ⟨b', c', cur, r1, r2, r3, r4, r5, r6, r7, r8, r9, r10⟩
      · rw [r1] at h3; cases h3
      · rw [r1] at h3
        cases h3
        rcases r10 with ⟨c, hc⟩ | h
        · exact hlive c b hc
        · omega
    · rw [hset i hi] at h1
      rw [hM' i hi (by rw [hr.heap.len]; exact (List.getElem?_eq_some_iff.1 h1).1)] at h3
      exact ⟨i, o, c, h1, h2, h3⟩
  have hst : Stp w (own hp M) w' (own hp' (M.set id mo')) := ⟨g1, hkeep, hown, g2, g3, g4⟩
  have hob' : ∀ i o c b, i ≠ id → hp[i]? = some o → o.live = true → M[i]? = some (some (b, c)) → w'.heap[b]? = w.heap[b]? := fun i o c b hi h1 h2 h3 => by
    have hlt := hr.heap.block_lt ⟨i, o, c, h1, h2, h3⟩
    rcases hres with ⟨_, _, _, rfl, _⟩ | ⟨b', c', cur, r1, r2, r3, r4, r5, r6, r7, r8, r9, r10⟩
    · rfl
    · refine r9 b hlt fun e => ?_
      subst e
      rcases r10 with ⟨c2, hc⟩ | h
      · exact hi (hr.heap.inj i id o _ b c c2 h1 ho h2 rfl h3 (by rw [hMid, hc]))
      · omega
  have hnew : ∀ i o b c, i ≠ id → hp[i]? = some o → o.live = true → M[i]? = some (some (b, c)) → ∀ c', mo' = some (b, c') → False := fun i o b c hi h1 h2 h3 c' he => by
    have hlt := hr.heap.block_lt ⟨i, o, c, h1, h2, h3⟩
    rcases hres with ⟨r1, _⟩ | ⟨b', c2, cur, r1, r2, r3, r4, r5, r6, r7, r8, r9, r10⟩
    · rw [r1] at he; cases he
    · rw [r1] at he
      cases he
      rcases r10 with ⟨c3, hc⟩ | h
      · exact hi (hr.heap.inj i id o _ b c c3 h1 ho h2 rfl h3 (by rw [hMid, hc]))
      · omega
  have hrh : RelH Z hp' (M.set id mo') w' := by
    refine ⟨by simp [hp', hr.heap.len], fun i o m' h1 h2 => ?_, fun b hb hz => ?_, fun b hz => Nat.lt_of_lt_of_le (hr.heap.old b hz) g1, hr.heap.amb_stp hst, fun i j oi oj b c c' hi hj li lj mi mj => ?_⟩
    · by_cases hi : i = id
      · subst hi
        rw [hsetid] at h1
        rw [hM'id] at h2
        cases h1; cases h2
        rcases hres with ⟨rfl, r2, r3, r4, rfl⟩ | ⟨b', c', cur, rfl, r2, r3, r4, r5, r6, r7, r8, r9, r10⟩
        · have : ds = [] := hrow2 rfl
          have hm0 : m = 0 := by omega
          subst hm0
          have : ys = [] := List.eq_nil_of_length_eq_zero (by simpa using hl)
          subst this
          exact ⟨by simp [*], r3⟩
        · refine ⟨by rw [List.length_append, hrow3, hl, e2, Nat.add_mul], cur, r3, by rw [r4, e2], r5, r6, fun j dd hj => ?_⟩
          by_cases hjn : j < ds.length
          · rw [List.getElem?_append_left hjn] at hj
            have hmo : mo ≠ none := fun e => by have := hrow2 e; subst this; simp at hjn
            obtain ⟨v, f1, f2⟩ := hrow4 hmo j dd hj
            exact ⟨v, by rw [r7 j (by rw [← hrow3]; exact hjn) hmo]; exact f1, f2.step (stp_z Z hst)⟩
          · rw [List.getElem?_append_right (by omega)] at hj
            have hlt : j - ds.length < news.length := by rw [hsrc2]; exact (List.getElem?_eq_some_iff.1 hj).1
            have hn := List.getElem?_eq_getElem hlt
            refine ⟨news[j - ds.length], ?_, (hsrc3 _ _ dd hn hj).step (stp_z Z hst)⟩
            have := r8 _ _ hn
            rw [← hrow3] at this
            rw [← this]
            congr 1
            omega
      · rw [hset i hi] at h1
        rw [hM' i hi (by rw [hr.heap.len]; exact (List.getElem?_eq_some_iff.1 h1).1)] at h2
        refine (hr.heap.obj i o m' h1 h2).not (k := id) (stp_z Z hst) hM' ?_ fun b c e hl2 => ?_
        · have := List.all_eq_true.1 hno o (List.mem_of_getElem? h1)
          simpa using this
        · subst e
          exact hob' i o c b hi h1 hl2 h2
    · by_cases hb' : b < w.heap.size
      · exact hr.heap.apart b (hown b hb' hb) hz
      · exact absurd (hr.heap.old b hz) hb'
    · by_cases hi1 : i = id
      · by_cases hj1 : j = id
        · rw [hi1, hj1]
        · exfalso
          subst hi1
          rw [hM'id] at mi
          rw [hset j hj1] at hj
          rw [hM' j hj1 (by rw [hr.heap.len]; exact (List.getElem?_eq_some_iff.1 hj).1)] at mj
          exact hnew j oj b c' hj1 hj lj mj c (by cases mi; rfl)
      · rw [hset i hi1] at hi
        rw [hM' i hi1 (by rw [hr.heap.len]; exact (List.getElem?_eq_some_iff.1 hi).1)] at mi
        by_cases hj1 : j = id
        · exfalso
          subst hj1
          rw [hM'id] at mj
          exact hnew i oi b c hi1 hi li mi c' (by cases mj; rfl)
        · rw [hset j hj1] at hj
          rw [hM' j hj1 (by rw [hr.heap.len]; exact (List.getElem?_eq_some_iff.1 hj).1)] at mj
          exact hr.heap.inj i j oi oj b c c' hi hj li lj mi mj
  have hvr : VR w' (ownZ Z hp' (M.set id mo')) (M.set id mo') (.sl id (n + m)) v' := by
    rcases hres with ⟨rfl, rfl, r3, r4, rfl⟩ | ⟨b', c', cur, rfl, rfl, r3, r4, r5, r6, r7, r8, r9, r10⟩
    · rw [r3]; exact .slnil hM'id
    · exact .sl hM'id r5 r6
  have hfr : Rel Z hp' (M.set id mo') w' (fr.clean id) a N := by
    refine ⟨hrh, fun t' g hg => ?_, hr.size, hr.defers⟩
    rcases Fr.clean_get hg with rfl | ⟨h1, h2⟩
    · obtain ⟨g', hg'⟩ := Fr.clean_some hg
      obtain ⟨v, f1, _⟩ := hr.fr t' g' hg'
      exact ⟨v, f1, .junk v⟩
    · obtain ⟨v, f1, f2⟩ := hr.fr t' g h1
      exact ⟨v, f1, f2.not (stp_z Z hst) hM' h2⟩
  unfold Oper.wp
  have hexec : (execOp a.eval ⟨some d, .call ⟨.builtin .append, #[x, y], #[t, t]⟩, ty, pos, after, none⟩).run P w = .ok (.value v') w' := by
    simp [execOp, resolve, invoke, builtin, hrun]
  rw [hexec, Oper.upon_value]
  have hF := Nat.le_of_ble_eq_true hFid
  exact hK _ _ (k Z w0 O0 M0 w' _ _ (hs.trans hst) (ha.trans (F' := F) ⟨by simp; omega, fun i hi => hM' i (by omega) (by omega)⟩ (Nat.le_refl _)) (hfr.put (nblt.1 hd) hvr))
end
end Go.Gk
