/-
  THE GHOST LOGIC, PART 40: a row that loses a part of its middle (slices.Delete): its front, its end moved onto it, what lies behind let go.
  THE GHOST LOGIC, PART 41: slices that lie in rows, maps and structs and grow in place: tags, given out by a bag.
  THE GHOST LOGIC, PART 42: local arrays with an index that is not told; == on arrays of numbers; loops taken apart.
  THE GHOST LOGIC, PART 43: regions that draw their order and lay boxes in no order: each order is gone through, and the boxes are named anew.
  THE GHOST LOGIC, PART 44: handles: maps and boxes that lie in maps, rows and structs.
  THE GHOST LOGIC, PART 45: operations on what lies behind handles.
  THE GHOST LOGIC, PART 46: loops whose rounds choose by a map's order; only what comes out at the end is told.
  THE GHOST LOGIC, PART 47: maps whose keys are structs.
  THE GHOST LOGIC, PART 48: loops over maps that may be left early; loops over strings.
  THE GHOST LOGIC, PART 49: regions that draw their order, lay rows in no order and call: each order is gone through; some operations are told ahead.
-/
import Derived.Test.YtfnjahjbpaoepaaGreatDoorGk39
import Derived.WideKeyRuns
set_option linter.unusedVariables false
set_option linter.unusedSimpArgs false
set_option linter.unusedSectionVars false
namespace Go.Gk
open Go.Instr
variable {P : Program} {Γ : TypeId → Option TI} {F N : Nat} {Q : GPost} {fr fr' : Fr} {hp hp' : List Ob} {ks : List Kt}
variable {α : Type} {enc : α → List D} {ops : Array Oper} {rest : List Oper} {g : G}
variable {d : Tmp} {op : Op} {ty : TypeId} {pos : String} {after : Array Edge} {gd' : Option (Nat × Bool)}
/-- A part of a row that nobody looks at: the bounds hold. -/
theorem op_part3 (hΓ : TOK P Γ) {t e : TypeId} {i1 i2 : TI} {x lo hi mx : Operand} {n id : Nat} {k1 k2 k3 : IntKind} {a b c0 : Int} {l r : List α} (hz : subZ l a b = some r) (h1 : Γ t = some i1) (h1' : i1.desc = .slice e) (h2 : Γ e = some i2) (hx : fr.ev x = some (.sl id n)) (hn : n = l.length)
    (hlo : fr.ev lo = some (.d (.v (.int k1 a)))) (hhi : fr.ev hi = some (.d (.v (.int k2 b)))) (hmx : fr.ev mx = some (.d (.v (.int k3 c0)))) (hc : c0 = (l.length : Int)) :
    OpP P N ⟨some d, .slice t x (some lo) (some hi) (some mx), ty, pos, after, gd'⟩ fr hp .junk := fun Z w M a hr => by
  obtain ⟨u1, _⟩ := hΓ t _ h1
  rw [h1'] at u1
  have hs := run_size' (P := P) (w := w) hΓ h2
  obtain ⟨a', b', ea, eb, e1, e2, rfl⟩ := subZ_ok hz
  subst ea; subst eb; subst hc
  have v1 := hr.ev hlo
  have v2 := hr.ev hhi
  have v3 := hr.ev hmx
  have hvx := hr.ev hx
  simp only [execOp, Option.map_some]
  generalize a.eval lo = y1 at v1
  generalize a.eval hi = y2 at v2
  generalize a.eval mx = y3 at v3
  generalize a.eval x = vx at hvx
  cases v1 with
  | d v1 =>
  cases v2 with
  | d v2 =>
  cases v3 with
  | d v3 =>
  cases v1
  cases v2
  cases v3
  cases hvx with
  | slnil hM =>
    have h0 : l.length = 0 := hn.symm
    have hb0 : b' = 0 := by omega
    have ha0 : a' = 0 := by omega
    subst hb0; subst ha0
    rw [h0]
    refine ⟨.slice none 0 0, ?_, .junk _⟩
    simp [Instr.sliceAt, Instr.slice, Instr.sliceBounds, run_underlying u1, hs, run_sliceBound w k3 (0 : Int) 0 _ (by omega) (by omega), run_sliceBound w k2 (0 : Int) 0 _ (by omega) (by omega), run_sliceBound w k1 (0 : Int) 0 _ (by omega) (by omega)]
  | sl hM hnc hm =>
    rename_i b c
    have r3 := run_sliceBound (P := P) w k3 (l.length : Nat) c .slice3Acap (by omega) (by omega)
    have r2 := run_sliceBound (P := P) w k2 (b' : Nat) l.length .slice3B (by omega) (by omega)
    have r1 := run_sliceBound (P := P) w k1 (a' : Nat) b' .slice3C (by omega) (by omega)
    simp only [Int.toNat_natCast] at r1 r2 r3
    exact ⟨_, by simp [Instr.sliceAt, Instr.slice, Instr.sliceBounds, run_underlying u1, hs, r1, r2, r3]; rfl, .junk _⟩
/-- The front of a row, as a view. -/
theorem op_frontZ (hΓ : TOK P Γ) {t e : TypeId} {i1 i2 : TI} {x : Operand} {lo hi : Option Operand} {n id : Nat} {a : Int} {l r : List α} (hz : subZ l 0 a = some r) (h1 : Γ t = some i1) (h1' : i1.desc = .slice e) (h2 : Γ e = some i2) (hx : fr.ev x = some (.sl id n)) (hn : n = l.length) (hlo : fr.bound lo 0 = some (0 : Int)) (hhi : fr.bound hi n = some a) :
    OpP P N ⟨some d, .slice t x lo hi none, ty, pos, after, gd'⟩ fr hp (.sl id r.length) := fun Z w M ac hr => by
  obtain ⟨a', b', ea, eb, e1, e2, rfl⟩ := subZ_ok hz
  subst eb; subst hn
  obtain rfl : a' = 0 := by omega
  have hrl : ((l.take b').drop 0).length = b' := by simp; omega
  rw [hrl]
  obtain ⟨u1, _⟩ := hΓ t _ h1
  rw [h1'] at u1
  have hs := run_size' (P := P) (w := w) hΓ h2
  have hvx := hr.ev hx
  simp only [execOp, Option.map_none]
  generalize ac.eval x = vx at hvx
  generalize hnl : l.length = n at hvx hhi e2
  cases hvx with
  | slnil hM =>
    have hh0 : b' = 0 := by omega
    subst hh0
    have hb := run_bounds (P := P) (w := w) hr (b := true) (l := 0) (len := 0) (cap := 0) hlo hhi (Nat.le_refl _) (Nat.le_refl _)
    exact ⟨.slice none 0 0, by simp [Instr.sliceAt, Instr.slice, run_underlying u1, hb, hs], .slnil hM⟩
  | sl hM hn hm =>
    rename_i b c
    have hb := run_bounds (P := P) (w := w) hr (b := true) (l := 0) (len := n) (cap := c) hlo hhi (Nat.zero_le _) (by omega)
    refine ⟨.slice (some ⟨b, 0, none⟩) b' c, ?_, .sl hM (by omega) hm⟩
    by_cases hc : c = 0
    · subst hc; simp [Instr.sliceAt, Instr.slice, run_underlying u1, hb, hs]
    · simp [Instr.sliceAt, Instr.slice, run_underlying u1, hb, hs, hc, Addr.add_lit]
/-- What lies behind a row's told end, up to what the object holds. -/
theorem op_pastZ (hΓ : TOK P Γ) {t e te : TypeId} {i1 i2 : TI} {x : Operand} {lo hi : Option Operand} {n id sz k m : Nat} {a b : Int} {ds : List D} (h1 : Γ t = some i1) (h1' : i1.desc = .slice e) (h2 : Γ e = some i2) (hx : fr.ev x = some (.sl id n)) (ho : hp[id]? = some (.row te sz m ds)) (hlo : fr.bound lo 0 = some a) (hhi : fr.bound hi n = some b) (ha : a = (k : Int)) (hb : b = (m : Int)) (hkm : k ≤ m) (hk0 : k = n) :
    OpP P N ⟨some d, .slice t x lo hi none, ty, pos, after, gd'⟩ fr hp (.slo id i2.size k (m - k)) := fun Z w M ac hr => by
  subst ha; subst hb; subst hk0
  obtain ⟨u1, _⟩ := hΓ t _ h1
  rw [h1'] at u1
  have hs := run_size' (P := P) (w := w) hΓ h2
  have hvx := hr.ev hx
  simp only [execOp, Option.map_none]
  generalize ac.eval x = vx at hvx
  cases hvx with
  | slnil hM =>
    have hob := hr.heap.obj id _ _ ho hM
    obtain ⟨_, hm0⟩ := hob
    subst hm0
    have hb := run_bounds (P := P) (w := w) hr (b := true) (l := 0) (len := 0) (cap := 0) hlo hhi (Nat.le_refl _) (Nat.le_refl _)
    exact ⟨.slice none 0 0, by simp [Instr.sliceAt, Instr.slice, run_underlying u1, hb, hs], .slonil hM⟩
  | sl hM hn hm =>
    rename_i b c
    have hob := hr.heap.obj id _ _ ho hM
    obtain ⟨hdl, cs, hbk, hcs, hnc, hcm', hcr⟩ := hob
    have hb := run_bounds (P := P) (w := w) hr (b := true) (l := k) (len := k) (cap := c) hlo hhi hkm hnc
    refine ⟨.slice (some ⟨b, if c = k then 0 else k * i2.size, none⟩) (m - k) (c - k), ?_, .slo hM (by omega) hm⟩
    by_cases hc : c = k
    · subst hc; simp [Instr.sliceAt, Instr.slice, run_underlying u1, hb, hs]
    · simp [Instr.sliceAt, Instr.slice, run_underlying u1, hb, hs, hc, Addr.add_lit]; try omega
/-- A row's end moved onto its front: nothing grows. -/
theorem ops_appendOwn (hΓ : TOK P Γ) {t te : TypeId} {i1 i2 : TI} {x y : Operand} {id n i j m : Nat} {ds : List D} (h1 : Γ t = some i1) (h1' : i1.desc = .slice te) (h2 : Γ te = some i2)
    (hx : fr.ev x = some (.sl id i)) (hy : fr.ev y = some (.slo id i2.size j m)) (ho : hp[id]? = some (.row te i2.size n ds)) (hij : i ≤ j) (hjm : j + m = n) :
    OpS P N ⟨some d, .call ⟨.builtin .append, #[x, y], #[t, t]⟩, ty, pos, after, gd'⟩ fr hp (.sl id (i + m)) (hp.set id (.row te i2.size n (setAt ds (i * i2.size) (ds.drop (j * i2.size))))) := by
  intro Z w M a hr
  obtain ⟨u1, _⟩ := hΓ t _ h1
  rw [h1'] at u1
  obtain ⟨_, inf, e1, e2, e3, e4⟩ := hΓ te _ h2
  have hid : id < hp.length := (List.getElem?_eq_some_iff.1 ho).1
  have hag : Agr hp.length M M := ⟨Nat.le_of_eq hr.heap.len.symm, fun _ _ => rfl⟩
  have hvx := hr.ev hx
  have hvy := hr.ev hy
  generalize hxv : a.eval x = vx at hvx
  generalize hyv : a.eval y = vy at hvy
  have hid' : ∀ o, hp[id]? = some o → hp.set id o = hp := fun o h => by
    apply List.ext_getElem?
    intro q
    by_cases hq : q = id
    · subst hq; rw [List.getElem?_set_self hid, h]
    · rw [List.getElem?_set_ne (Ne.symm hq)]
  cases hvx with
  | slnil hM =>
    have hob := hr.heap.obj id _ _ ho hM
    obtain ⟨hd, hn0⟩ := hob
    subst hd
    have hm0 : m = 0 := by omega
    have hj0 : j = 0 := by omega
    subst hm0; subst hj0
    cases hvy with
    | slo hM2 _ _ => rw [hM] at hM2; cases hM2
    | slonil _ =>
      have hset : hp.set id (.row te i2.size n (setAt ([] : List D) (0 * i2.size) (([] : List D).drop (0 * i2.size)))) = hp := hid' _ (by rw [ho]; simp [setAt])
      rw [hset]
      exact ⟨.slice none 0 0, w, M, by simp [execOp, resolve, invoke, builtin, hxv, hyv, Builtin.append_, run_underlying u1, sizeOf, typeInfo, e1, Builtin.lenOf, Builtin.firstCells, storeCells], hr.heap, .slnil hM, .refl _ _, hag⟩
  | sl hM hn hcm =>
    rename_i b c
    have hob := hr.heap.obj id _ _ ho hM
    obtain ⟨hdl, cs, hbk, hcs, hnc, hcm', hcr⟩ := hob
    cases hvy with
    | slonil hM2 => rw [hM] at hM2; cases hM2
    | slo hM2 hn2 _ =>
      rw [hM] at hM2
      cases hM2
      let news := (cs.toList.drop (j * i2.size)).take (m * i2.size)
      have hmul : n * i2.size ≤ c * i2.size := Nat.mul_le_mul_right _ hnc
      have hjn : j * i2.size + m * i2.size = n * i2.size := by rw [← Nat.add_mul, hjm]
      have hijm : i * i2.size ≤ j * i2.size := Nat.mul_le_mul_right _ hij
      have hnl : news.length = m * i2.size := by simp only [news, List.length_take, List.length_drop, Array.length_toList, hcs]; omega
      have hng : ∀ (q : Nat) (u : Value), news[q]? = some u → cs[j * i2.size + q]? = some u ∧ q < m * i2.size := fun q u hq => by
        have hlt : q < m * i2.size := by rw [← hnl]; exact (List.getElem?_eq_some_iff.1 hq).1
        simp only [news] at hq
        rw [List.getElem?_take_of_lt hlt, List.getElem?_drop, Array.getElem?_toList] at hq
        exact ⟨hq, hlt⟩
      have hdl2 : (ds.drop (j * i2.size)).length = m * i2.size := by rw [List.length_drop, hdl]; omega
      have hdat : DataR w (ownZ Z hp M) news.toArray (ds.drop (j * i2.size)) := fun q dd hq => by
        have hlt : q < m * i2.size := by rw [← hdl2]; exact (List.getElem?_eq_some_iff.1 hq).1
        rw [List.getElem?_drop] at hq
        obtain ⟨v, f1, f2⟩ := hcr _ dd hq
        refine ⟨v, ?_, f2⟩
        rw [List.getElem?_toArray]
        simp only [news]
        rw [List.getElem?_take_of_lt hlt, List.getElem?_drop, Array.getElem?_toList]
        exact f1
      have h1c : ∀ u ∈ news, u.oneCell' = true := fun u hu => by
        obtain ⟨q, hq, rfl⟩ := List.getElem_of_mem hu
        have hq' := List.getElem?_eq_getElem hq
        obtain ⟨_, hlt⟩ := hng q _ hq'
        have hqd := List.getElem?_eq_getElem (l := ds.drop (j * i2.size)) (i := q) (by rw [hdl2]; exact hlt)
        obtain ⟨v, f1, f2⟩ := hdat q _ hqd
        rw [List.getElem?_toArray, hq'] at f1
        cases f1
        exact f2.one
      have hsl : (setAt ds (i * i2.size) (ds.drop (j * i2.size))).length = ds.length := setAt_length (by rw [hdl2, hdl]; omega)
      obtain ⟨w', r1, r2, r3⟩ := write_ok (P := P) (o' := .row te i2.size n (setAt ds (i * i2.size) (ds.drop (j * i2.size)))) hr.heap ho rfl hM hbk (off := i * i2.size) (vs := news) (by rw [hnl, hcs]; omega) h1c
        (fun w' hst hh => ⟨by rw [hsl, hdl], _, hh, by rw [List.size_toArray, setAt_length (by rw [hnl, Array.length_toList, hcs]; omega), Array.length_toList, hcs], hnc, hcm', by
          have := DataR.setAt (off := i * i2.size) hcr hdat (by rw [List.size_toArray, hnl, hdl2]) (by rw [hdl2, hdl]; omega) (by rw [hdl, hcs]; exact hmul)
          exact fun q dd hq => (this q dd hq).elim fun v hv => ⟨v, hv.1, hv.2.step hst⟩⟩) rfl
      refine ⟨.slice (some ⟨b, 0, none⟩) (i + m) c, w', M, ?_, r2, .sl hM (by omega) hcm, r3, hag⟩
      have hcell : ∀ q, w.cell? ⟨b, q, none⟩ = cs[q]? := fun q => cell_of_row w b q cs te _ hbk
      have hoff : ∀ q, q < m * i2.size → (if c = j then 0 else j * i2.size) + q = j * i2.size + q := fun q hq => by
        split
        · rename_i h; subst h
          have : m = 0 := by omega
          subst this; simp at hq
        · rfl
      have hfc := run_firstCells_some (P := P) w i2.size m ⟨b, if c = j then 0 else j * i2.size, none⟩ m (c - j) news hnl (fun q u hq => by
        obtain ⟨f1, f2⟩ := hng q u hq
        rw [Addr.add_lit, hoff q f2, hcell]; exact f1)
      have hroom : i + m ≤ c := by omega
      simp [execOp, resolve, invoke, builtin, hxv, hyv, Builtin.append_, run_underlying u1, sizeOf, typeInfo, e1, e2, Builtin.lenOf, hroom, hfc, Addr.add_lit, r1]
theorem cut3 {l z0 z1 z2 : List α} {a b : Int} (h0 : subZ l a b = some z0) (h1 : subZ l 0 a = some z1) (h2 : subZ l b (l.length : Int) = some z2) :
    (setAt l z1.length z2).length = l.length ∧ (z1 ++ z2).length ≤ l.length ∧ (setAt l z1.length z2).take (z1 ++ z2).length = z1 ++ z2 := by
  obtain ⟨a0, b0, ea, eb, c1, c2, rfl⟩ := subZ_ok h0
  obtain ⟨a1, b1, ea1, eb1, d1, d2, rfl⟩ := subZ_ok h1
  obtain ⟨a2, b2, ea2, eb2, f1, f2, rfl⟩ := subZ_ok h2
  obtain rfl : a1 = 0 := by omega
  obtain rfl : b1 = a0 := by omega
  obtain rfl : a2 = b0 := by omega
  obtain rfl : b2 = l.length := by omega
  have hlen : ((l.take b1).drop 0).length + ((l.take l.length).drop a2).length ≤ l.length := by simp; omega
  refine ⟨setAt_length hlen, by rw [List.length_append]; exact hlen, ?_⟩
  have e : ((l.take b1).drop 0).length = b1 := by simp; omega
  rw [e]
  unfold setAt
  rw [show (List.drop 0 (List.take b1 l)) = l.take b1 from List.drop_zero]
  rw [List.take_left']
  rfl
theorem ops_appendOwnT (hΓ : TOK P Γ) {t te : TypeId} {i1 i2 : TI} {x y : Operand} {id i k m sz : Nat} {l z0 z1 z2 : List α} {a b : Int} (h0 : subZ l a b = some z0) (hz1 : subZ l 0 a = some z1) (hz2 : subZ l b (l.length : Int) = some z2) (h1 : Γ t = some i1) (h1' : i1.desc = .slice te) (h2 : Γ te = some i2)
    (hx : fr.ev x = some (.sl id i)) (hi : i = z1.length) (hy : fr.ev y = some (.slo id sz k m)) (hk : k = b.toNat) (hsz : sz = i2.size) (hm : m = z2.length) (ho : hp[id]? = some (.row te i2.size l.length (l.flatMap enc))) (henc : ∀ y, (enc y).length = i2.size) :
    OpS P N ⟨some d, .call ⟨.builtin .append, #[x, y], #[t, t]⟩, ty, pos, after, gd'⟩ fr hp (.sl id (z1 ++ z2).length) (hp.set id (.row te i2.size (setAt l z1.length z2).length ((setAt l z1.length z2).flatMap enc))) := by
  subst hi; subst hk; subst hsz; subst hm
  obtain ⟨g1, g2, g3⟩ := cut3 h0 hz1 hz2
  obtain ⟨a0, b0, ea, eb, c1, c2, _⟩ := subZ_ok h0
  obtain ⟨a1, b1, ea1, eb1, d1, d2, e1⟩ := subZ_ok hz1
  obtain ⟨a2, b2, ea2, eb2, f1, f2, e2⟩ := subZ_ok hz2
  obtain rfl : b2 = l.length := by omega
  have hz2l : z2.length = l.length - a2 := by rw [e2]; simp
  have hz1l : z1.length = a0 := by rw [e1]; simp; omega
  have hb : b.toNat = a2 := by omega
  have he : (setAt l z1.length z2).flatMap enc = setAt (l.flatMap enc) (z1.length * i2.size) ((l.flatMap enc).drop (a2 * i2.size)) := by
    unfold setAt
    rw [List.flatMap_append, List.flatMap_append, flat_take henc, flat_drop henc, ← flat_drop henc l a2, e2, List.take_length, flat_len henc, Nat.add_mul]
  rw [g1, he, List.length_append]
  rw [hb] at hy
  exact ops_appendOwn hΓ h1 h1' h2 hx hy ho (by omega) (by omega)
theorem op_pastT (hΓ : TOK P Γ) {t e te : TypeId} {i1 i2 : TI} {x : Operand} {lo hi : Option Operand} {n id sz m : Nat} {a b : Int} {ds : List D} {l r : List α} (h1 : Γ t = some i1) (h1' : i1.desc = .slice e) (h2 : Γ e = some i2) (hx : fr.ev x = some (.sl id n)) (ho : hp[id]? = some (.row te sz m ds)) (hm : m = l.length) (hlo : fr.bound lo 0 = some a) (hhi : fr.bound hi n = some b) (hn : n = r.length) (ha : a = (r.length : Int)) (hb : b = (l.length : Int)) (hkm : r.length ≤ l.length) :
    OpP P N ⟨some d, .slice t x lo hi none, ty, pos, after, gd'⟩ fr hp (.slo id i2.size r.length (l.drop r.length).length) := by
  rw [List.length_drop, ← hm]
  exact op_pastZ hΓ h1 h1' h2 hx ho hlo hhi ha (by rw [hb, hm]) (by rw [hm]; exact hkm) hn.symm
theorem ops_clearPastT (hΓ : TOK P Γ) {t te : TypeId} {i1 i2 : TI} {x : Operand} {id sz k n : Nat} {l r : List α} (hr : l.take r.length = r) (hle : r.length ≤ l.length) (h1 : Γ t = some i1) (h1' : i1.desc = .slice te) (h2 : Γ te = some i2) (hzc : Nat.beq i2.zero.cells.size i2.size = true) (hz1 : (i2.zero.cells.toList.all (·.oneCell')) = true)
    (hx : fr.ev x = some (.slo id sz k n)) (hk : k = r.length) (hsz : sz = i2.size) (hn : n = (l.drop r.length).length) (ho : hp[id]? = some (.row te i2.size l.length (l.flatMap enc))) (henc : ∀ y, (enc y).length = i2.size) :
    OpS P N ⟨none, .call ⟨.builtin .clear, #[x], #[t]⟩, ty, pos, after, gd'⟩ fr hp (.tup []) (hp.set id (.row te i2.size r.length (r.flatMap enc))) := by
  subst hsz; subst hn; subst hk
  have := ops_clear (P := P) (N := N) (ty := ty) (pos := pos) (after := after) (gd' := gd') hΓ h1 h1' h2 hzc hz1 hx (by rw [ho]; congr 2; rw [List.length_drop]; omega)
  rw [← flat_take henc, hr] at this
  exact this
end Go.Gk
namespace Go.Gk
/-- A slice with its tag. -/
abbrev Tl (α : Type) : Type := Nat × List α
def Slt {α : Type} (te : TypeId) (sz : Nat) (enc : α → List D) (s : Tl α) : D := .rt te sz s.1 s.2.length (s.2.flatMap enc)
def eT {α : Type} (te : TypeId) (sz : Nat) (enc : α → List D) (s : Tl α) : List D := [Slt te sz enc s]
theorem RelH.bag_none {Z : Env} {hp : List Ob} {M : Mp} {w : World} (hr : RelH Z hp M w) {bg : Nat} {al : List Bool} {ar : List Ar} {lt : List (Nat × Nat)} (hbag : hp[bg]? = some (.bag al ar lt)) : M.l[bg]? = some none ∧ ObR w (ownZ Z hp M) M (.bag al ar lt) none := by
  have hbl : bg < hp.length := (List.getElem?_eq_some_iff.1 hbag).1
  have e : M.l[bg]? = some (M.l[bg]'(by rw [hr.len]; exact hbl)) := List.getElem?_eq_getElem _
  have := hr.obj bg _ _ hbag e
  revert this
  rw [e]
  cases M.l[bg]'(by rw [hr.len]; exact hbl) with
  | none => exact fun h => ⟨rfl, h⟩
  | some _ => exact fun h => h.elim
section
variable {P : Program} {Γ : TypeId → Option TI} {F N : Nat} {Q : GPost} {fr fr' : Fr} {hp hp' : List Ob} {ks : List Kt}
variable {ops : Array Oper} {rest : List Oper} {g : G} {α : Type} {enc : α → List D}
variable {d : Tmp} {op : Op} {ty : TypeId} {pos : String} {after : Array Edge} {gd : Option (Nat × Bool)}
def appT {α : Type} (al : List Bool) (s : Tl α) (m : List α) : Option (Tl α × List Bool) :=
  bi (apd s.2 m) fun r => bif m.isEmpty then some (s, al) else match s.1 with
    | 0 => none
    | 1 => some ((al.length + 2, r), al ++ [true])
    | t + 2 => bif (al[t]?).getD false then some ((al.length + 2, r), al.set t false ++ [true]) else none
/-! ### Tags that are taken as less, or made -/
/-- The tag of a slice that is full. -/
abbrev fTag (l : List α) : Nat := bif l.isEmpty then 0 else 1
theorem j_hp {c : Code} (hp2 : List Ob) (h : hp = hp2) (k : St.holds P F N Q (.code c ks) fr hp2) : St.holds P F N Q (.code c ks) fr hp := by subst h; exact k
/-! ### Locals that are laid in whatever order -/
section
variable {hpL : List Ob} {ll hl bl : List Nat} {k : Nat} {QF : Fr → List Ob → Prop}
end
end
end Go.Gk
namespace Go.Gk
/-- An element set anew. -/
def updA {α : Type} (k : Int) (j : Nat) (v a : α) : α := if k = (j : Int) then v else a
def updL {α : Type} (k : Int) (v : α) : Nat → List α → List α
  | _, [] => []
  | j, a :: l => updA k j v a :: updL k v (j + 1) l
section
variable {P : Program} {Γ : TypeId → Option TI} {F N : Nat} {Q : GPost} {fr fr' : Fr} {hp : List Ob} {ks : List Kt}
variable {α : Type} {enc : α → List D} {ops : Array Oper} {rest : List Oper} {g : G}
variable {d : Tmp} {op : Op} {ty : TypeId} {pos : String} {after : Array Edge} {gd' : Option (Nat × Bool)}
/-! ### == on arrays of numbers -/
/-! ### Loops taken apart -/
/-- A loop of n rounds at most, told round by round. -/
def Rn (P : Program) (F N : Nat) (Q : GPost) (c : Code) (ks : List Kt) : Nat → Fr → List Ob → Prop
  | 0 => fun _ _ => False
  | n + 1 => fun fr hp => St.holds P F N Q (.code c (.mid (Rn P F N Q c ks n) :: ks)) fr hp
end
end Go.Gk
namespace Go.Gk
/-! ### Objects named anew -/
def pf (ρ : List Nat) (i : Nat) : Nat := ρ.getD i i
def prmB (ρ σ : List Nat) (n0 n : Nat) : Bool := (List.range n).all (fun i => Nat.blt (pf ρ i) n && Nat.blt (pf σ i) n && Nat.beq (pf σ (pf ρ i)) i && Nat.beq (pf ρ (pf σ i)) i) && (List.range n0).all fun i => Nat.beq (pf ρ i) i
def prmObs (ρ σ : List Nat) (hp : List Ob) : List Ob := (List.range hp.length).map fun j => (hp.getD (pf σ j) .dead).ren (pf ρ)
/-! ### Each order -/
def ocat {α : Type} (f : Nat → Option (List α)) : List Nat → Option (List α)
  | [] => some []
  | i :: r => match f i with
    | some a => match ocat f r with
      | some b => some (a ++ b)
      | none => none
    | none => none
/-- The cells of a struct that are told as they are. -/
def bxOf (bx : List (Nat × List Nat)) (k : Nat) : List Nat := match bx with
  | [] => []
  | e :: r => bif Nat.beq e.1 k then e.2 else bxOf r k
/-- A struct that is built. -/
def bldSt (Γ : TypeId → Option TI) (fr : Fr) (xs : List Nat) : Op → Option G
  | .build t parts => match Γ t with
    | some ⟨.struct fs, a, b, z⟩ => bif (fs.toList.all fun f => (Γ f.type).isSome) && (z.cells.toList.all (·.oneCell')) then
        (evParts fr parts.toList).bind fun pg => (fillG (placesG Γ fs) (zeroX xs ⟨.struct fs, a, b, z⟩) pg).map .agg
      else none
    | _ => none
  | _ => none
def xstep (Γ : TypeId → Option TI) (N : Nat) (hpL : List Ob) (ll : List Nat) (bx : List (Nat × List Nat)) (full : Array Oper) (k : Nat) (fr : Fr) (o : Oper) : Option Fr := match o with
  | ⟨some d, .build t parts, ty, pos, after, none⟩ => bif Nat.blt d N then (bldSt Γ (fr.only (Oper.looksAt full ⟨some d, .build t parts, ty, pos, after, none⟩)) (bxOf bx k) (.build t parts)).map fun g => (d, g) :: fr else none
  | _ => estep Γ N hpL ll [] full k fr o
def deadB (hpL : List Ob) (id : Nat) : Bool := match hpL[id]? with
  | some o => !o.live
  | none => true
def hst (Γ : TypeId → Option TI) (N : Nat) (hpL : List Ob) (full : Array Oper) (fr : Fr) (hp : List Ob) : Oper → Option (Fr × List Ob)
  | ⟨some d, .box t x, ty, pos, after, none⟩ => bif Nat.blt d N then ((fr.only (Oper.looksAt full ⟨some d, .box t x, ty, pos, after, none⟩)).ev x).bind fun g => (cellsG g).bind fun gs => bif gs.all G.one then some ((d, .ptr hp.length 0) :: fr, hp ++ [.box t gs]) else none else none
  | ⟨some d, .buildSlice t len parts, ty, pos, after, none⟩ => match Γ t with
    | some ⟨.slice e, _, _, _⟩ => match Γ e with
      | some i2 => bif Nat.blt d N && (i2.zero.cells.toList.all (·.oneCell')) && Nat.blt 0 i2.zero.cells.size && Nat.ble (len * i2.size) 16777216 && Nat.ble len 16777216 then
          (evParts (fr.only (Oper.looksAt full ⟨some d, .buildSlice t len parts, ty, pos, after, none⟩)) parts.toList).bind fun pg => (fillG (fun i => some (i * i2.size, i2.size)) (zerosG i2 len) pg).bind fun gs => (toDs gs).bind fun ds => some ((d, .sl hp.length len) :: fr, hp ++ [.row e i2.size len ds])
        else none
      | none => none
    | _ => none
  | ⟨none, .store t x y, ty, pos, after, none⟩ => match Γ t with
    | some i => match (fr.only (Oper.looksAt full ⟨none, .store t x y, ty, pos, after, none⟩)).ev x with
      | some (.ptr id off) => match hp[id]? with
        | some (.box tb gs) => ((fr.only (Oper.looksAt full ⟨none, .store t x y, ty, pos, after, none⟩)).ev y).bind fun g => (cellsG g).bind fun new =>
            bif new.all G.one && Nat.beq new.length i.size && Nat.ble (off + new.length) gs.length && deadB hpL id then some (fr, hp.set id (.box tb (setAt gs off new))) else none
        | _ => none
      | _ => none
    | none => none
  | _ => none
def anyR (Γ : TypeId → Option TI) (N : Nat) (hpL : List Ob) (ll hl : List Nat) (bx : List (Nat × List Nat)) (ops : Array Oper) : Nat → Array Bool → Fr → List Ob → Option (List (Fr × List Ob))
  | 0, listed, fr, hp => match Region.ready .any ops listed with
    | [] => some [(fr, hp)]
    | _ :: _ => none
  | fuel + 1, listed, fr, hp => match Region.ready .any ops listed with
    | [] => some [(fr, hp)]
    | i0 :: r => match (i0 :: r).find? fun i => !(inL hl i) with
      | some i => match ops[i]? with
        | none => none
        | some o => bif Region.free .any ops listed i then match xstep Γ N hpL ll bx ops i fr o with
          | some fr' => anyR Γ N hpL ll hl bx ops fuel (listed.setIfInBounds i true) fr' hp
          | none => none
          else none
      | none => ocat (fun i => match ops[i]? with
          | none => none
          | some o => match hst Γ N hpL ops fr hp o with
            | some s => anyR Γ N hpL ll hl bx ops fuel (listed.setIfInBounds i true) s.1 s.2
            | none => none) (i0 :: r)
section
variable {P : Program} {Γ : TypeId → Option TI} {F N : Nat} {Q : GPost} {fr fr' : Fr} {hp hp' hpL : List Ob} {ks : List Kt} {ll hl : List Nat} {bx : List (Nat × List Nat)}
variable {ops : Array Oper}
def LeafOk (n0 : Nat) (s : Fr × List Ob) (p : List Nat × List Nat) (fr0 : Fr) (hp0 : List Ob) : Prop :=
  prmB p.1 p.2 n0 s.2.length = true ∧ prmObs p.1 p.2 s.2 = hp0 ∧ fr0.map (fun e => (Fr.get s.1 e.1).map (G.ren (pf p.1))) = fr0.map fun e => some e.2
def leafN (n0 : Nat) (T : List Nat) (s : Fr × List Ob) (p : List Nat × List Nat) : Bool × List (Option G) × List Ob := (prmB p.1 p.2 n0 s.2.length, T.map fun t => (Fr.get s.1 t).map (G.ren (pf p.1)), prmObs p.1 p.2 s.2)
def leavesN (n0 : Nat) (T : List Nat) : List (Fr × List Ob) → List (List Nat × List Nat) → List (Bool × List (Option G) × List Ob)
  | [], _ => []
  | s :: ss, p :: ps => leafN n0 T s p :: leavesN n0 T ss ps
  | _ :: _, [] => [(false, [], [])]
/-! ### A nil slice in a box becomes a row -/
/-! ### A row is lent, in a region that draws -/
variable {fop : Operand} {args : Array Operand} {ts : Array TypeId} {f : FuncId} {g1 g2 gs gs' : List G}
def D.isV : D → Bool
  | .v _ => true
  | _ => false
end
/-! ### Slices with tags that lie in maps -/
section
variable {P : Program} {Γ : TypeId → Option TI} {F N : Nat} {Q : GPost} {fr fr' : Fr} {hp hp' : List Ob} {ks : List Kt}
variable {K W : Type} [BEq K] [KLt K] {kv : K → Value} {ops : Array Oper} {rest : List Oper} {g : G}
variable {d : Tmp} {op : Op} {ty : TypeId} {pos : String} {after : Array Edge} {gd : Option (Nat × Bool)}
end
end Go.Gk
namespace Go.Gk
/-- What a handle that is lent reads as. -/
def hdG (k : Option Nat) (id : Nat) : G := match k with
  | some off => .ptr id off
  | none => .map id
/-- What lies behind a handle, as an object. -/
def Ar.ob : Ar → Ob
  | .map _ agg es => .map agg es none
  | .box _ ty ds => .box ty (ds.map .d)
  | .row _ ty sz n ds => .row ty sz n ds
theorem Ar.ob_live (a : Ar) : a.ob.live = true := by cases a <;> rfl
theorem Ar.ob_bag (a : Ar) : a.ob.isBag = false := by cases a <;> rfl
theorem ArR.ob {w : World} {O : Ow} {M M' : Mp} {a : Ar} (h : ArR w O M a) (hnr : a.isRow = false) : ∃ x : Tg, M.h[a.t]? = some (some x) ∧ x.sz = 0 ∧ ObR w O M' a.ob (some (x.b, 0)) := by
  cases a with
  | map t agg es => exact let ⟨x, e1, e2, e3⟩ := h; ⟨x, e1, e2, e3⟩
  | box t ty ds =>
    obtain ⟨x, e1, e2, cs, e3, e4, e5⟩ := h
    refine ⟨x, e1, e2, cs, e3, by simp [e4], fun j g hg => ?_⟩
    rw [List.getElem?_map] at hg
    obtain ⟨d, hd, rfl⟩ := Option.map_eq_some_iff.1 hg
    obtain ⟨v, f1, f2⟩ := e5 j d hd
    exact ⟨v, f1, f2.one, .d f2⟩
  | row _ _ _ _ _ => cases hnr
theorem RelH.lend {Z : Env} {hp : List Ob} {M : Mp} {w : World} (hr : RelH Z hp M w) {bg : Nat} {al : List Bool} {ar ar' : List Ar} {lt : List (Nat × Nat)} {a : Ar} (hbag : hp[bg]? = some (.bag al ar lt)) (hperm : ar.Perm (a :: ar')) (hnr : a.isRow = false) :
    ∃ x : Tg, M.h[a.t]? = some (some x) ∧ RelH Z ((hp.set bg (.bag al ar' ((a.t, hp.length) :: lt))) ++ [a.ob]) (M.app [some (x.b, 0)]) w ∧ own ((hp.set bg (.bag al ar' ((a.t, hp.length) :: lt))) ++ [a.ob]) (M.app [some (x.b, 0)]) = own hp M := by
  obtain ⟨hbm, q1, q2, q3, q4, q5, q6⟩ := hr.bag_none hbag
  have hbl : bg < hp.length := (List.getElem?_eq_some_iff.1 hbag).1
  have hmem : a ∈ ar := hperm.mem_iff.2 (List.mem_cons_self ..)
  obtain ⟨x, hx, hxz, hxo⟩ := (q4 a hmem).1.ob (M' := M) hnr
  refine ⟨x, hx, ?_⟩
  have hno : ¬ obOwn hp M x.b := fun h => let ⟨id, h1⟩ := hr.bags.lnd bg al ar lt hbag a.t x hx h; (q4 a hmem).2.1 id h1
  have hpw : (a :: ar').Pairwise (fun a a' => a.t ≠ a'.t) := (hperm.pairwise_iff fun h => Ne.symm h).1 q5
  have hcase : ∀ (i : Nat) (o : Ob), ((hp.set bg (.bag al ar' ((a.t, hp.length) :: lt))) ++ [a.ob])[i]? = some o → (i ≠ bg ∧ i < hp.length ∧ hp[i]? = some o) ∨ (i = bg ∧ o = .bag al ar' ((a.t, hp.length) :: lt)) ∨ (i = hp.length ∧ o = a.ob) := fun i o h => by
    by_cases hi : i < hp.length
    · rw [List.getElem?_append_left (by simpa using hi)] at h
      by_cases hb : bg = i
      · subst hb; rw [List.getElem?_set_self hbl] at h; cases h; exact .inr (.inl ⟨rfl, rfl⟩)
      · rw [List.getElem?_set_ne hb] at h; exact .inl ⟨Ne.symm hb, hi, h⟩
    · rw [List.getElem?_append_right (by simpa using hi)] at h
      simp only [List.length_set] at h
      have : i - hp.length = 0 := by
        have := (List.getElem?_eq_some_iff.1 h).1
        simp at this; omega
      rw [this] at h
      simp at h
      exact .inr (.inr ⟨by omega, h.symm⟩)
  have hMo : ∀ i, i < M.l.length → (M.app [some (x.b, 0)]).l[i]? = M.l[i]? := fun i hi => List.getElem?_append_left hi
  have hMn : (M.app [some (x.b, 0)]).l[hp.length]? = some (some (x.b, 0)) := by rw [← hr.len]; simp
  have hob : ∀ b, obOwn ((hp.set bg (.bag al ar' ((a.t, hp.length) :: lt))) ++ [a.ob]) (M.app [some (x.b, 0)]) b ↔ obOwn hp M b ∨ b = x.b := fun b => by
    constructor
    · rintro ⟨i, o, c, h1, h2, h3⟩
      rcases hcase i o h1 with ⟨_, hi, h⟩ | ⟨rfl, rfl⟩ | ⟨rfl, rfl⟩
      · exact .inl ⟨i, o, c, h, h2, by rw [← hMo i (by rw [hr.len]; exact hi)]; exact h3⟩
      · rw [hMo _ (by rw [hr.len]; exact hbl), hbm] at h3; cases h3
      · rw [hMn] at h3; cases h3; exact .inr rfl
    · rintro (⟨i, o, c, h1, h2, h3⟩ | rfl)
      · have hi : i < hp.length := (List.getElem?_eq_some_iff.1 h1).1
        have hne : bg ≠ i := fun e => by subst e; rw [hbm] at h3; cases h3
        exact ⟨i, o, c, by rw [List.getElem?_append_left (by simpa using hi), List.getElem?_set_ne hne]; exact h1, h2, by rw [hMo i (by rw [hr.len]; exact hi)]; exact h3⟩
      · exact ⟨hp.length, a.ob, 0, by rw [List.getElem?_append_right (by simp)]; simp, a.ob_live, hMn⟩
  have hg : hasBag hp := ⟨bg, al, ar, lt, hbag⟩
  have hg' : hasBag ((hp.set bg (.bag al ar' ((a.t, hp.length) :: lt))) ++ [a.ob]) := ⟨bg, al, ar', _, by rw [List.getElem?_append_left (by simpa using hbl), List.getElem?_set_self hbl]⟩
  have hown : own ((hp.set bg (.bag al ar' ((a.t, hp.length) :: lt))) ++ [a.ob]) (M.app [some (x.b, 0)]) = own hp M := own_eq (fun b => by
    constructor
    · rintro (h | ⟨_, h⟩)
      · rcases (hob b).1 h with h | rfl
        · exact .inl h
        · exact .inr ⟨hg, x, List.mem_of_getElem? hx, rfl⟩
      · exact .inr ⟨hg, h⟩
    · rintro (h | ⟨_, h⟩)
      · exact .inl ((hob b).2 (.inl h))
      · exact .inr ⟨hg', h⟩) rfl ⟨fun _ => hg, fun _ => hg'⟩
  have hownZ : ownZ Z ((hp.set bg (.bag al ar' ((a.t, hp.length) :: lt))) ++ [a.ob]) (M.app [some (x.b, 0)]) = ownZ Z hp M := by unfold ownZ; rw [hown]
  have hbags : ∀ (i : Nat) (al1 : List Bool) (ar1 : List Ar) (lt1 : List (Nat × Nat)), ((hp.set bg (.bag al ar' ((a.t, hp.length) :: lt))) ++ [a.ob])[i]? = some (.bag al1 ar1 lt1) → i = bg ∧ lt1 = (a.t, hp.length) :: lt := fun i al1 ar1 lt1 h => by
    rcases hcase i _ h with ⟨h1, _, h2⟩ | ⟨h1, h2⟩ | ⟨_, h2⟩
    · exact absurd (hr.bags.one _ _ _ _ _ _ _ _ h2 hbag) h1
    · cases h2; exact ⟨h1, rfl⟩
    · have := a.ob_bag; rw [← h2] at this; cases this
  refine ⟨⟨by simp [hr.len], fun i o m h1 h2 => ?_, fun b hb hz => hr.apart b (by rw [hown] at hb; exact hb) hz, hr.old, hr.amb, fun i j oi oj b c c' hi hj li lj mi mj => ?_, ⟨fun y hy => ⟨(hr.bags.tgs y hy).1, fun hz h => ?_⟩, fun i j al1 al2 ar1 ar2 lt1 lt2 hi hj => (hbags i _ _ _ hi).1.trans (hbags j _ _ _ hj).1.symm, fun i al1 ar1 lt1 hi t y hy h => ?_, hr.bags.hds⟩⟩, hown⟩
  · rw [hownZ]
    rcases hcase i o h1 with ⟨hne, hi, h⟩ | ⟨rfl, rfl⟩ | ⟨rfl, rfl⟩
    · rw [hMo i (by rw [hr.len]; exact hi)] at h2
      have := hr.obj i o m h h2
      exact this.move (k := M.l.length) (.refl _ _) hMo this.bel (fun _ _ _ _ => rfl) (fun _ _ _ _ => ⟨rfl, fun _ _ _ => rfl⟩)
    · rw [hMo _ (by rw [hr.len]; exact hbl), hbm] at h2
      cases h2
      refine ⟨q1, q2, q3, fun a1 ha1 => ⟨((q4 a1 (hperm.mem_iff.2 (List.mem_cons_of_mem _ ha1))).1).same rfl, fun id hm => ?_, (q4 a1 (hperm.mem_iff.2 (List.mem_cons_of_mem _ ha1))).2.2⟩, (List.pairwise_cons.1 hpw).2, fun t id hm => ?_⟩
      · rcases List.mem_cons.1 hm with e | hm
        · exact (List.pairwise_cons.1 hpw).1 a1 ha1 (congrArg Prod.fst e).symm
        · exact (q4 a1 (hperm.mem_iff.2 (List.mem_cons_of_mem _ ha1))).2.1 id hm
      · rcases List.mem_cons.1 hm with e | hm
        · cases e; exact ⟨x, 0, hx, hxz, hMn⟩
        · obtain ⟨y, c, e1, e2, e3⟩ := q6 t id hm
          exact ⟨y, c, e1, e2, (hMo id (Mp.lt e3)).trans e3⟩
    · rw [hMn] at h2
      cases h2
      exact hxo.move (k := M.l.length) (.refl _ _) hMo hxo.bel (fun _ _ _ _ => rfl) (fun _ _ _ e => by have := a.ob_bag; rw [e] at this; cases this)
  · rcases hcase i oi hi with ⟨_, hil, hi⟩ | ⟨rfl, rfl⟩ | ⟨rfl, rfl⟩
    · rw [hMo i (by rw [hr.len]; exact hil)] at mi
      rcases hcase j oj hj with ⟨_, hjl, hj⟩ | ⟨rfl, rfl⟩ | ⟨rfl, rfl⟩
      · rw [hMo j (by rw [hr.len]; exact hjl)] at mj
        exact hr.inj i j oi oj b c c' hi hj li lj mi mj
      · rw [hMo _ (by rw [hr.len]; exact hbl), hbm] at mj; cases mj
      · rw [hMn] at mj; cases mj; exact absurd ⟨i, oi, c, hi, li, mi⟩ hno
    · rw [hMo _ (by rw [hr.len]; exact hbl), hbm] at mi; cases mi
    · rw [hMn] at mi
      cases mi
      rcases hcase j oj hj with ⟨_, hjl, hj⟩ | ⟨rfl, rfl⟩ | ⟨rfl, rfl⟩
      · rw [hMo j (by rw [hr.len]; exact hjl)] at mj
        exact absurd ⟨j, oj, c', hj, lj, mj⟩ hno
      · rw [hMo _ (by rw [hr.len]; exact hbl), hbm] at mj; cases mj
      · rfl
  · rcases (hob _).1 h with h | e
    · exact (hr.bags.tgs y hy).2 hz h
    · obtain ⟨t, ht⟩ := List.getElem?_of_mem hy
      have ht' : M.h[t]? = some (some y) := ht
      have := hr.bags.hds a.t t x y hx ht' hxz e
      subst this
      rw [hx] at ht'
      cases ht'
      omega
  · obtain ⟨_, rfl⟩ := hbags i _ _ _ hi
    have hy' : M.h[t]? = some (some y) := hy
    rcases (hob _).1 h with h | e
    · obtain ⟨id, h1⟩ := hr.bags.lnd bg al ar lt hbag t y hy' h
      exact ⟨id, List.mem_cons_of_mem _ h1⟩
    · have := hr.bags.hds a.t t x y hx hy' hxz e
      subst this
      exact ⟨hp.length, List.mem_cons_self ..⟩
/-- An object is what lies behind a handle. -/
def Ar.of : Ar → Ob → Prop
  | .map _ agg es, .map agg' es' _ => agg' = agg ∧ es' = es
  | .box _ ty ds, .box ty' gs => ty' = ty ∧ gs = ds.map .d
  | _, _ => False
theorem ArR.of_ob {w : World} {O : Ow} {M : Mp} {a : Ar} {o : Ob} {x : Tg} {c : Nat} (ha : a.of o) (h : ObR w O M o (some (x.b, c))) (hx : M.h[a.t]? = some (some x)) (hz : x.sz = 0) : ArR w O M a := by
  cases a with
  | map t agg es =>
    cases o with
    | map agg' es' st =>
      obtain ⟨rfl, rfl⟩ := ha
      obtain ⟨ms, cl, es', h1, p1, p2, p3, h2⟩ := h
      exact ⟨x, hx, hz, ms, cl, es', h1, p1, p2, (fun raw e => by cases e), h2⟩
    | _ => exact ha.elim
  | box t ty ds =>
    cases o with
    | box ty' gs =>
      obtain ⟨rfl, rfl⟩ := ha
      obtain ⟨cs, h1, h2, h3⟩ := h
      refine ⟨x, hx, hz, cs, h1, by simpa using h2, fun j d hd => ?_⟩
      obtain ⟨v, e1, e2, e3⟩ := h3 j (.d d) (by rw [List.getElem?_map, hd]; rfl)
      refine ⟨v, e1, ?_⟩
      cases e3 with
      | d h => exact h
    | _ => exact ha.elim
  | row _ _ _ _ _ => cases o <;> exact ha.elim
theorem RelH.back {Z : Env} {hp : List Ob} {M : Mp} {w : World} (hr : RelH Z hp M w) {bg id : Nat} {al : List Bool} {ar : List Ar} {a : Ar} {o : Ob} (hbag : hp[bg]? = some (.bag al ar [(a.t, id)])) (ho : hp[id]? = some o) (hl : o.live = true) (hoa : a.of o) :
    RelH Z ((hp.set id .dead).set bg (.bag al (a :: ar) [])) M w ∧ own ((hp.set id .dead).set bg (.bag al (a :: ar) [])) M = own hp M := by
  obtain ⟨hbm, q1, q2, q3, q4, q5, q6⟩ := hr.bag_none hbag
  have hbl : bg < hp.length := (List.getElem?_eq_some_iff.1 hbag).1
  have hid : id < hp.length := (List.getElem?_eq_some_iff.1 ho).1
  obtain ⟨x, c0, hx, hxz, hMx⟩ := q6 a.t id (List.mem_cons_self ..)
  have hcase : ∀ (i : Nat) (o1 : Ob), ((hp.set id .dead).set bg (.bag al (a :: ar) []))[i]? = some o1 → (i ≠ bg ∧ i ≠ id ∧ hp[i]? = some o1) ∨ (i = bg ∧ o1 = .bag al (a :: ar) []) ∨ (i ≠ bg ∧ o1 = .dead) := fun i o1 h => by
    by_cases hb : bg = i
    · subst hb; rw [List.getElem?_set_self (by simpa using hbl)] at h; cases h; exact .inr (.inl ⟨rfl, rfl⟩)
    · rw [List.getElem?_set_ne hb] at h
      by_cases hi : id = i
      · subst hi; rw [List.getElem?_set_self hid] at h; cases h; exact .inr (.inr ⟨Ne.symm hb, rfl⟩)
      · rw [List.getElem?_set_ne hi] at h; exact .inl ⟨Ne.symm hb, Ne.symm hi, h⟩
  have hob : ∀ b, obOwn ((hp.set id .dead).set bg (.bag al (a :: ar) [])) M b → obOwn hp M b ∧ b ≠ x.b := fun b h => by
    obtain ⟨i, o1, c, h1, h2, h3⟩ := h
    rcases hcase i o1 h1 with ⟨_, hi, h⟩ | ⟨rfl, rfl⟩ | ⟨_, rfl⟩
    · exact ⟨⟨i, o1, c, h, h2, h3⟩, fun e => by subst e; exact hi (hr.inj i id o1 o _ c c0 h ho h2 hl h3 hMx)⟩
    · rw [hbm] at h3; cases h3
    · cases h2
  have hob2 : ∀ b, obOwn hp M b → obOwn ((hp.set id .dead).set bg (.bag al (a :: ar) [])) M b ∨ b = x.b := fun b h => by
    obtain ⟨i, o1, c, h1, h2, h3⟩ := h
    have hne : bg ≠ i := fun e => by subst e; rw [hbm] at h3; cases h3
    by_cases hi : id = i
    · subst hi; rw [hMx] at h3; cases h3; exact .inr rfl
    · exact .inl ⟨i, o1, c, by rw [List.getElem?_set_ne hne, List.getElem?_set_ne hi]; exact h1, h2, h3⟩
  have hg : hasBag hp := ⟨bg, al, ar, _, hbag⟩
  have hg' : hasBag ((hp.set id .dead).set bg (.bag al (a :: ar) [])) := ⟨bg, al, _, _, List.getElem?_set_self (by simpa using hbl)⟩
  have hown : own ((hp.set id .dead).set bg (.bag al (a :: ar) [])) M = own hp M := own_eq (fun b => by
    constructor
    · rintro (h | ⟨_, h⟩)
      · exact .inl (hob b h).1
      · exact .inr ⟨hg, h⟩
    · rintro (h | ⟨_, h⟩)
      · rcases hob2 b h with h | rfl
        · exact .inl h
        · exact .inr ⟨hg', x, List.mem_of_getElem? hx, rfl⟩
      · exact .inr ⟨hg', h⟩) rfl ⟨fun _ => hg, fun _ => hg'⟩
  have hownZ : ownZ Z ((hp.set id .dead).set bg (.bag al (a :: ar) [])) M = ownZ Z hp M := by unfold ownZ; rw [hown]
  have hbags : ∀ (i : Nat) (al1 : List Bool) (ar1 : List Ar) (lt1 : List (Nat × Nat)), ((hp.set id .dead).set bg (.bag al (a :: ar) []))[i]? = some (.bag al1 ar1 lt1) → i = bg := fun i al1 ar1 lt1 h => by
    rcases hcase i _ h with ⟨h1, _, h2⟩ | ⟨h1, h2⟩ | ⟨_, h2⟩
    · exact absurd (hr.bags.one _ _ _ _ _ _ _ _ h2 hbag) h1
    · exact h1
    · cases h2
  refine ⟨⟨by simp [hr.len], fun i o1 m h1 h2 => ?_, fun b hb hz => hr.apart b (by rw [hown] at hb; exact hb) hz, hr.old, hr.amb, fun i j oi oj b c c' hi hj li lj mi mj => ?_, ⟨fun y hy => ⟨(hr.bags.tgs y hy).1, fun hz h => (hr.bags.tgs y hy).2 hz (hob _ h).1⟩, fun i j al1 al2 ar1 ar2 lt1 lt2 hi hj => (hbags i _ _ _ hi).trans (hbags j _ _ _ hj).symm, fun i al1 ar1 lt1 hi t y hy h => ?_, hr.bags.hds⟩⟩, hown⟩
  · rw [hownZ]
    rcases hcase i o1 h1 with ⟨_, hi, h⟩ | ⟨rfl, rfl⟩ | ⟨_, rfl⟩
    · exact hr.obj i o1 m h h2
    · rw [hbm] at h2
      cases h2
      refine ⟨q1, q2, q3, fun a1 ha1 => ⟨?_, fun id hm => by simp at hm, fun hrow => ?_⟩, List.pairwise_cons.2 ⟨fun a1 ha1 e => (q4 a1 ha1).2.1 id (by rw [e]; exact List.mem_cons_self ..), q5⟩, fun t id hm => by simp at hm⟩
      rotate_left
      · rcases List.mem_cons.1 ha1 with rfl | ha1
        · cases a1 <;> first | (cases hrow; done) | (cases o <;> exact hoa.elim)
        · exact (q4 a1 ha1).2.2 hrow
      rcases List.mem_cons.1 ha1 with rfl | ha1
      · exact ArR.of_ob hoa (hr.obj id o _ ho hMx) hx hxz
      · exact (q4 a1 ha1).1
    · cases m <;> trivial
  · have key : ∀ (i : Nat) (o1 : Ob) (c : Nat), ((hp.set id .dead).set bg (.bag al (a :: ar) []))[i]? = some o1 → o1.live = true → M.l[i]? = some (some (b, c)) → hp[i]? = some o1 := fun i o1 c e1 e2 e3 => by
      rcases hcase i o1 e1 with ⟨_, _, h⟩ | ⟨rfl, rfl⟩ | ⟨_, rfl⟩
      · exact h
      · rw [hbm] at e3; cases e3
      · cases e2
    exact hr.inj i j oi oj b c c' (key i oi c hi li mi) (key j oj c' hj lj mj) li lj mi mj
  · exfalso
    obtain ⟨h1, h2⟩ := hob _ h
    obtain ⟨id', h3⟩ := hr.bags.lnd bg al ar _ hbag t y hy h1
    simp at h3
    obtain ⟨rfl, rfl⟩ := h3
    rw [hx] at hy
    cases hy
    exact h2 rfl
section
variable {P : Program} {Γ : TypeId → Option TI} {F N : Nat} {Q : GPost} {fr fr' : Fr} {hp hp' : List Ob} {ks : List Kt}
variable {ops : Array Oper} {rest : List Oper} {g : G} {α : Type} {enc : α → List D}
/-- Slots that point to an object. -/
def AllHd (fr : Fr) (id : Nat) : List (Nat × Option Nat) → Prop
  | [] => True
  | e :: L => fr.get e.1 = some (hdG e.2 id) ∧ AllHd fr id L
def hdL : List (Nat × Option Nat) → Nat → Fr
  | [], _ => []
  | e :: L, h => (e.1, .d (.hd e.2 h)) :: hdL L h
theorem AllHd.at {fr : Fr} {id : Nat} : ∀ {L : List (Nat × Option Nat)}, AllHd fr id L → ∀ {t : Nat} {k : Option Nat}, (t, k) ∈ L → fr.get t = some (hdG k id)
  | e :: L, h, t, k, hm => by
    rcases List.mem_cons.1 hm with rfl | hm
    · exact h.1
    · exact AllHd.at h.2 hm
end
end Go.Gk
namespace Go.Gk
/-! ### Arenas as lists -/
def hGet {α : Type} (l : List (Nat × α)) : Nat → Option α
  | 0 => none
  | t + 1 => (l.find? fun e => t == e.1).map (·.2)
def hSet {α : Type} (l : List (Nat × α)) (h : Nat) (x : α) : List (Nat × α) := match h with
  | 0 => l
  | t + 1 => match l.findIdx? (fun e => t == e.1) with
    | some i => l.set i (t, x)
    | none => l
def hDel {α : Type} (l : List (Nat × α)) (h : Nat) : List (Nat × α) := match h with
  | 0 => l
  | t + 1 => match l.findIdx? (fun e => t == e.1) with
    | some i => l.eraseIdx i
    | none => l
abbrev arG {α : Type} (f : Nat → α → Ar) (l : List (Nat × α)) : List Ar := l.map fun e => f e.1 e.2
abbrev fM {K V : Type} (kv : K → Value) (agg : Bool) (enc : V → List D) (t : Nat) (m : List (K × V)) : Ar := .map t agg (m.map fun e => (kv e.1, enc e.2))
abbrev fB {X : Type} (ty : TypeId) (enc : X → List D) (t : Nat) (x : X) : Ar := .box t ty (enc x)
/-- An entry of an arena, and what it turns into. -/
def ArU (ar : List Ar) (h : Nat) (a a' : Ar) (arn : List Ar) : Prop := h = a.t + 1 ∧ a'.t = a.t ∧ ∃ ar', ar.Perm (a :: ar') ∧ arn.Perm (a' :: ar')
/-- An entry of an arena, and the others. -/
def ArD (ar : List Ar) (h : Nat) (a : Ar) (ar' : List Ar) : Prop := h = a.t + 1 ∧ ar.Perm (a :: ar')
theorem ArU.l {ar arn : List Ar} {h : Nat} {a a' : Ar} (r : List Ar) (hu : ArU ar h a a' arn) : ArU (ar ++ r) h a a' (arn ++ r) :=
  let ⟨h1, h2, ar', h3, h4⟩ := hu; ⟨h1, h2, ar' ++ r, h3.append_right r, h4.append_right r⟩
theorem ArU.r {ar arn : List Ar} {h : Nat} {a a' : Ar} (l : List Ar) (hu : ArU ar h a a' arn) : ArU (l ++ ar) h a a' (l ++ arn) :=
  let ⟨h1, h2, ar', h3, h4⟩ := hu; ⟨h1, h2, l ++ ar', (h3.append_left l).trans List.perm_middle, (h4.append_left l).trans List.perm_middle⟩
theorem ArD.l {ar ar' : List Ar} {h : Nat} {a : Ar} (r : List Ar) (hu : ArD ar h a ar') : ArD (ar ++ r) h a (ar' ++ r) := ⟨hu.1, hu.2.append_right r⟩
theorem ArD.r {ar ar' : List Ar} {h : Nat} {a : Ar} (l : List Ar) (hu : ArD ar h a ar') : ArD (l ++ ar) h a (l ++ ar') := ⟨hu.1, (hu.2.append_left l).trans List.perm_middle⟩
abbrev eH (kd : Option Nat) (h : Nat) : List D := [.hd kd h]
/-- A zero is read as data. -/
def ZDv (agg : Bool) (ds : List D) (v : Value) : Prop := ∀ w O, DV w O agg ds v
theorem G.Le.hdN {kd : Option Nat} : G.Le (.d (.v (hval kd none))) (.d (.hd kd 0)) := fun w O M v hv => by
  rw [vr_v hv]
  exact .d (.hd _ _ _ rfl)
section
variable {P : Program} {Γ : TypeId → Option TI} {F N : Nat} {Q : GPost} {fr fr' : Fr} {hp hp' : List Ob} {ks : List Kt}
variable {ops : Array Oper} {rest : List Oper} {g : G}
variable {d : Tmp} {op : Op} {ty t' : TypeId} {pos : String} {after : Array Edge} {gd : Option (Nat × Bool)}
variable {K V : Type} [BEq K] [KLt K] {kv : K → Value} {agg : Bool} {enc : V → List D}
/-! ### What an operation does behind a handle -/
/-! ### A handle that is lent for a loop's time -/
end
end Go.Gk
namespace Go.Gk
/-- A loop over a map, whatever its order: each comes to something that is told. -/
def rangeW {α σ : Type} (f : α → σ → Option σ) (m : List α) (s : σ) (Q : σ → Prop) : Prop := ∀ m' : List α, m'.Perm m → ∃ r, rangeL f m' s = some r ∧ Q r
def okW {α : Type} (o : Option α) (Q : α → Prop) : Prop := ∃ r, o = some r ∧ Q r
/-- A loop of which each round, however it goes, comes to something that is told. -/
def loopW {σ ρ : Type} (G : σ → (LS σ ρ → Prop) → Prop) : Nat → σ → (ρ → Prop) → Prop
  | 0, _, _ => False
  | k + 1, s, Q => G s fun x => match x with
    | .go s' => loopW G k s' Q
    | .out r => Q r
/-- What such a loop gives, if all ways give the same. -/
noncomputable def loopD {σ ρ : Type} (G : σ → (LS σ ρ → Prop) → Prop) (k : Nat) (s : σ) : Option ρ :=
  open Classical in if h : ∃ r, loopW G k s (fun r' => r' = r) then some (Classical.choose h) else none
/-- What may be asked of a round: less may be told; two things that are told are told of one. -/
structure WOk {σ ρ : Type} (G : σ → (LS σ ρ → Prop) → Prop) : Prop where
  mono : ∀ s (C D : LS σ ρ → Prop), (∀ x, C x → D x) → G s C → G s D
  both : ∀ s (C D : LS σ ρ → Prop), G s C → G s D → ∃ x, C x ∧ D x
section
variable {P : Program} {F N : Nat} {Q : GPost} {fr fr' : Fr} {hp hp' : List Ob} {ks : List Kt}
variable {K V : Type} [BEq K] [KLt K] {kv : K → Value} {agg : Bool} {enc : V → List D}
end
end Go.Gk
namespace Go.Gk
/-- Keys of whatever kind, told apart by what the program does. -/
structure KeyP (P : Program) {K : Type} [BEq K] (kt : TypeId) (kv : K → Value) : Prop where
  find : ∀ (w : World) (k : K) (l : List MapEntry) (m : List K), l.length = m.length → (∀ (j : Nat) (e : MapEntry) (x : K), l[j]? = some e → m[j]? = some x → e.key = kv x) →
    (Instr.findKey kt (kv k) l).run P w = .ok ((m.findIdx? fun x => k == x).bind fun j => (l[j]?).map fun e => (j, e.val)) w
  check : ∀ (w : World) (em : Bool) (k : K), (Instr.checkKey em 10000 kt (kv k)).run P w = .ok () w
  bits : ∀ a b : K, (a == b) = true → Instr.sameBits 10000 (kv b) (kv a) = true
  ne : ∀ a b : K, (a == b) = false → kv b ≠ kv a
  eq : ∀ a b : K, (a == b) = true → a = b
  refl : ∀ a : K, (a == a) = true
abbrev D.val : D → Value
  | .v x => x
  | _ => .bool false
abbrev kD {K : Type} (enc : K → List D) (k : K) : Value := .agg ((enc k).map D.val).toArray
abbrev kG {K : Type} (enc : K → List D) (k : K) : G := .agg ((enc k).map G.d)
def Env.nil : Env := ⟨fun _ => False, fun _ => False, fun _ h => h, fun _ => False, fun _ _ _ h => h, fun _ h => h.elim⟩
def D.isVal : D → Bool
  | .v x => x.oneCell'
  | _ => false
def flatK : TypeDesc → Bool
  | .int _ | .bool | .string => true
  | _ => false
def flatFs (Γ : TypeId → Option TI) (xs : List G) : List Field → Bool
  | [] => true
  | f :: fs => (match Γ f.type with
    | some ⟨.int k, a, b, z⟩ => (partG ⟨.int k, a, b, z⟩ xs f.offset).isSome
    | some ⟨.bool, a, b, z⟩ => (partG ⟨.bool, a, b, z⟩ xs f.offset).isSome
    | some ⟨.string, a, b, z⟩ => (partG ⟨.string, a, b, z⟩ xs f.offset).isSome
    | _ => false) && flatFs Γ xs fs
section
variable {P : Program} {Γ : TypeId → Option TI}
end
/-! ### Maps under such keys -/
section
variable {P : Program} {Γ : TypeId → Option TI} {F N : Nat} {Q : GPost} {fr fr' : Fr} {hp hp' : List Ob} {ks : List Kt}
variable {ops : Array Oper} {rest : List Oper} {g : G}
variable {d : Tmp} {op : Op} {ty : TypeId} {pos : String} {after : Array Edge} {gd : Option (Nat × Bool)}
variable {K V : Type} [BEq K] [KLt K] {kv : K → Value} {agg : Bool} {enc : V → List D} {kenc : K → List D}
end
end Go.Gk
namespace Go.Gk
def rangeLM {α σ ρ : Type} (f : α → σ → Option (LS σ ρ)) : List α → σ → Option (LS σ ρ)
  | [], s => some (.go s)
  | x :: l, s => match f x s with
    | some (.go s') => rangeLM f l s'
    | some (.out r) => some (.out r)
    | none => none
/-- What a loop over a map gives that may be left early, if all orders give the same. -/
noncomputable def rangePM {α σ ρ : Type} (f : α → σ → Option (LS σ ρ)) (m : List α) (s : σ) : Option (LS σ ρ) :=
  open Classical in if h : ∃ r, ∀ m' : List α, m'.Perm m → rangeLM f m' s = some r then some (Classical.choose h) else none
/-- A string's bytes that are characters each. -/
def asc (s : List UInt8) : Bool := s.all fun b => decide (b.toNat < 128)
section
variable {P : Program} {Γ : TypeId → Option TI} {F N : Nat} {Q : GPost} {fr fr' : Fr} {hp hp' : List Ob} {ks : List Kt}
variable {ops : Array Oper} {rest : List Oper} {g : G}
variable {d : Tmp} {op : Op} {ty : TypeId} {pos : String} {after : Array Edge} {gd : Option (Nat × Bool)}
variable {K V : Type} [BEq K] [KLt K]
/-! ### Strings -/
end
end Go.Gk
namespace Go.Gk
/-- An operation that is told ahead: what it looks at, what it gives; the object that it turns. -/
structure Spec where
  k : Nat
  fr : Fr
  g : G
  ch : Option (Nat × Ob × Ob)
/-- What was found, what was told. -/
abbrev LogE := (List (Option G) × Option Ob) × (List (Option G) × Option Ob)
def SpecOk (P : Program) (N : Nat) (ops : Array Oper) (sp : Spec) : Prop := ∃ (o : Oper) (d : Tmp), ops[sp.k]? = some o ∧ o.dst = some d ∧ d < N ∧ o.guard = none ∧ (∀ t g, sp.fr.get t = some g → t ∈ o.looksAt ops) ∧
  match sp.ch with
  | none => ∀ hp, QtE P N o sp.fr hp sp.g hp
  | some (id, x, y) => ∀ hp, hp.all Ob.sole = true → hp[id]? = some x → QtE P N o sp.fr hp sp.g (hp.set id y)
def SpecsOk (P : Program) (N : Nat) (ops : Array Oper) : List Spec → Prop
  | [] => True
  | s :: r => SpecOk P N ops s ∧ SpecsOk P N ops r
def Spec.log (sp : Spec) (fr : Fr) (hp : List Ob) : LogE := match sp.ch with
  | none => ((sp.fr.map fun e => fr.get e.1, none), (sp.fr.map fun e => some e.2, none))
  | some (id, x, _) => ((sp.fr.map fun e => fr.get e.1, hp[id]?), (sp.fr.map fun e => some e.2, some x))
def findS (sps : List Spec) (k : Nat) : Option Spec := match sps with
  | [] => none
  | s :: r => bif Nat.beq s.k k then some s else findS r k
/-- A light step. -/
def lstC (Γ : TypeId → Option TI) (N : Nat) (hpL : List Ob) (ll : List Nat) (bx : List (Nat × List Nat)) (sps : List Spec) (ops : Array Oper) (k : Nat) (fr : Fr) (hp : List Ob) (lg : List LogE) (o : Oper) : Option (Fr × List LogE) := match findS sps k with
  | some sp => match sp.ch, o.dst with
    | none, some d => some ((d, sp.g) :: fr, lg ++ [sp.log fr hp])
    | _, _ => none
  | none => (xstep Γ N hpL ll bx ops k fr o).map fun fr' => (fr', lg)
/-- A heavy step. -/
def hstC (Γ : TypeId → Option TI) (N : Nat) (hpL : List Ob) (sps : List Spec) (ops : Array Oper) (k : Nat) (fr : Fr) (hp : List Ob) (lg : List LogE) (o : Oper) : Option (Fr × List Ob × List LogE) := match findS sps k with
  | some sp => match sp.ch, o.dst with
    | some (id, _, y), some d => bif hp.all Ob.sole && deadB hpL id then some ((d, sp.g) :: fr, hp.set id y, lg ++ [sp.log fr hp]) else none
    | _, _ => none
  | none => (hst Γ N hpL ops fr hp o).map fun s => (s.1, s.2, lg)
def anyC (Γ : TypeId → Option TI) (N : Nat) (hpL : List Ob) (ll hl : List Nat) (bx : List (Nat × List Nat)) (sps : List Spec) (ops : Array Oper) : Nat → Array Bool → Fr → List Ob → List LogE → Option (List (Fr × List Ob × List LogE))
  | 0, listed, fr, hp, lg => match Region.ready .any ops listed with
    | [] => some [(fr, hp, lg)]
    | _ :: _ => none
  | fuel + 1, listed, fr, hp, lg => match Region.ready .any ops listed with
    | [] => some [(fr, hp, lg)]
    | i0 :: r => match (i0 :: r).find? fun i => !(inL hl i) with
      | some i => match ops[i]? with
        | none => none
        | some o => bif Region.free .any ops listed i then match lstC Γ N hpL ll bx sps ops i fr hp lg o with
          | some s => anyC Γ N hpL ll hl bx sps ops fuel (listed.setIfInBounds i true) s.1 hp s.2
          | none => none
          else none
      | none => ocat (fun i => match ops[i]? with
          | none => none
          | some o => match hstC Γ N hpL sps ops i fr hp lg o with
            | some s => anyC Γ N hpL ll hl bx sps ops fuel (listed.setIfInBounds i true) s.1 s.2.1 s.2.2
            | none => none) (i0 :: r)
section
variable {P : Program} {Γ : TypeId → Option TI} {F N : Nat} {Q : GPost} {fr fr' : Fr} {hp hp' hpL : List Ob} {ks : List Kt} {ll hl : List Nat} {bx : List (Nat × List Nat)} {sps : List Spec}
variable {ops : Array Oper}
def LogOk (lg : List LogE) : Prop := ∀ e ∈ lg, e.1 = e.2
/-! ### Operations that are told ahead -/
end
end Go.Gk
