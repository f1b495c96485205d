/-
  THE GHOST LOGIC, PART 40: a row that loses a part of its middle (slices.Delete): its front, its end moved onto it, what lies behind let go.
  THE GHOST LOGIC, PART 41: slices that lie in rows, maps and structs and grow in place: tags, given out by a bag.
-/
import Derived.Test.YtnjnmkpgedkffaaGk39
set_option linter.unusedVariables false
set_option linter.unusedSimpArgs false
set_option linter.unusedSectionVars false
namespace Go.Gk
open Go.Instr
variable {P : Program} {Γ : TypeId → Option TI} {F N : Nat} {Q : GPost} {fr fr' : Fr} {hp hp' : List Ob} {ks : List Kt}
variable {α : Type} {enc : α → List D} {ops : Array Oper} {rest : List Oper} {g : G}
variable {d : Tmp} {op : Op} {ty : TypeId} {pos : String} {after : Array Edge} {gd' : Option (Nat × Bool)}

/-- A part of a row that nobody looks at: the bounds hold. -/
theorem op_part3 (hΓ : TOK P Γ) {t e : TypeId} {i1 i2 : TI} {x lo hi mx : Operand} {n id : Nat} {k1 k2 k3 : IntKind} {a b c0 : Int} {l r : List α} (hz : subZ l a b = some r) (h1 : Γ t = some i1) (h1' : i1.desc = .slice e) (h2 : Γ e = some i2) (hx : fr.ev x = some (.sl id n)) (hn : n = l.length)
    (hlo : fr.ev lo = some (.d (.v (.int k1 a)))) (hhi : fr.ev hi = some (.d (.v (.int k2 b)))) (hmx : fr.ev mx = some (.d (.v (.int k3 c0)))) (hc : c0 = (l.length : Int)) :
    OpP P N ⟨some d, .slice t x (some lo) (some hi) (some mx), ty, pos, after, gd'⟩ fr hp .junk := fun Z w M a hr => by
  obtain ⟨u1, _⟩ := hΓ t _ h1
  rw [h1'] at u1
  have hs := run_size' (P := P) (w := w) hΓ h2
  obtain ⟨a', b', ea, eb, e1, e2, rfl⟩ := subZ_ok hz
  subst ea; subst eb; subst hc
  have v1 := hr.ev hlo
  have v2 := hr.ev hhi
  have v3 := hr.ev hmx
  have hvx := hr.ev hx
  simp only [execOp, Option.map_some]
  generalize a.eval lo = y1 at v1
  generalize a.eval hi = y2 at v2
  generalize a.eval mx = y3 at v3
  generalize a.eval x = vx at hvx
  cases v1 with
  | d v1 =>
  cases v2 with
  | d v2 =>
  cases v3 with
  | d v3 =>
  cases v1
  cases v2
  cases v3
  cases hvx with
  | slnil hM =>
    have h0 : l.length = 0 := hn.symm
    have hb0 : b' = 0 := by omega
    have ha0 : a' = 0 := by omega
    subst hb0; subst ha0
    rw [h0]
    refine ⟨.slice none 0 0, ?_, .junk _⟩
    simp [Instr.sliceAt, Instr.slice, Instr.sliceBounds, run_underlying u1, hs, run_sliceBound w k3 (0 : Int) 0 _ (by omega) (by omega), run_sliceBound w k2 (0 : Int) 0 _ (by omega) (by omega), run_sliceBound w k1 (0 : Int) 0 _ (by omega) (by omega)]
  | sl hM hnc hm =>
    rename_i b c
    have r3 := run_sliceBound (P := P) w k3 (l.length : Nat) c .slice3Acap (by omega) (by omega)
    have r2 := run_sliceBound (P := P) w k2 (b' : Nat) l.length .slice3B (by omega) (by omega)
    have r1 := run_sliceBound (P := P) w k1 (a' : Nat) b' .slice3C (by omega) (by omega)
    simp only [Int.toNat_natCast] at r1 r2 r3
    exact ⟨_, by simp [Instr.sliceAt, Instr.slice, Instr.sliceBounds, run_underlying u1, hs, r1, r2, r3]; rfl, .junk _⟩

/-- The front of a row, as a view. -/
theorem op_frontZ (hΓ : TOK P Γ) {t e : TypeId} {i1 i2 : TI} {x : Operand} {lo hi : Option Operand} {n id : Nat} {a : Int} {l r : List α} (hz : subZ l 0 a = some r) (h1 : Γ t = some i1) (h1' : i1.desc = .slice e) (h2 : Γ e = some i2) (hx : fr.ev x = some (.sl id n)) (hn : n = l.length) (hlo : fr.bound lo 0 = some (0 : Int)) (hhi : fr.bound hi n = some a) :
    OpP P N ⟨some d, .slice t x lo hi none, ty, pos, after, gd'⟩ fr hp (.sl id r.length) := fun Z w M ac hr => by
  obtain ⟨a', b', ea, eb, e1, e2, rfl⟩ := subZ_ok hz
  subst eb; subst hn
  obtain rfl : a' = 0 := by omega
  have hrl : ((l.take b').drop 0).length = b' := by simp; omega
  rw [hrl]
  obtain ⟨u1, _⟩ := hΓ t _ h1
  rw [h1'] at u1
  have hs := run_size' (P := P) (w := w) hΓ h2
  have hvx := hr.ev hx
  simp only [execOp, Option.map_none]
  generalize ac.eval x = vx at hvx
  generalize hnl : l.length = n at hvx hhi e2
  cases hvx with
  | slnil hM =>
    have hh0 : b' = 0 := by omega
    subst hh0
    have hb := run_bounds (P := P) (w := w) hr (b := true) (l := 0) (len := 0) (cap := 0) hlo hhi (Nat.le_refl _) (Nat.le_refl _)
    exact ⟨.slice none 0 0, by simp [Instr.sliceAt, Instr.slice, run_underlying u1, hb, hs], .slnil hM⟩
  | sl hM hn hm =>
    rename_i b c
    have hb := run_bounds (P := P) (w := w) hr (b := true) (l := 0) (len := n) (cap := c) hlo hhi (Nat.zero_le _) (by omega)
    refine ⟨.slice (some ⟨b, 0, none⟩) b' c, ?_, .sl hM (by omega) hm⟩
    by_cases hc : c = 0
    · subst hc; simp [Instr.sliceAt, Instr.slice, run_underlying u1, hb, hs]
    · simp [Instr.sliceAt, Instr.slice, run_underlying u1, hb, hs, hc, Addr.add_lit]

/-- What lies behind a row's told end, up to what the object holds. -/
theorem op_pastZ (hΓ : TOK P Γ) {t e te : TypeId} {i1 i2 : TI} {x : Operand} {lo hi : Option Operand} {n id sz k m : Nat} {a b : Int} {ds : List D} (h1 : Γ t = some i1) (h1' : i1.desc = .slice e) (h2 : Γ e = some i2) (hx : fr.ev x = some (.sl id n)) (ho : hp[id]? = some (.row te sz m ds)) (hlo : fr.bound lo 0 = some a) (hhi : fr.bound hi n = some b) (ha : a = (k : Int)) (hb : b = (m : Int)) (hkm : k ≤ m) (hk0 : k = n) :
    OpP P N ⟨some d, .slice t x lo hi none, ty, pos, after, gd'⟩ fr hp (.slo id i2.size k (m - k)) := fun Z w M ac hr => by
  subst ha; subst hb; subst hk0
  obtain ⟨u1, _⟩ := hΓ t _ h1
  rw [h1'] at u1
  have hs := run_size' (P := P) (w := w) hΓ h2
  have hvx := hr.ev hx
  simp only [execOp, Option.map_none]
  generalize ac.eval x = vx at hvx
  cases hvx with
  | slnil hM =>
    have hob := hr.heap.obj id _ _ ho hM
    obtain ⟨_, hm0⟩ := hob
    subst hm0
    have hb := run_bounds (P := P) (w := w) hr (b := true) (l := 0) (len := 0) (cap := 0) hlo hhi (Nat.le_refl _) (Nat.le_refl _)
    exact ⟨.slice none 0 0, by simp [Instr.sliceAt, Instr.slice, run_underlying u1, hb, hs], .slonil hM⟩
  | sl hM hn hm =>
    rename_i b c
    have hob := hr.heap.obj id _ _ ho hM
    obtain ⟨hdl, cs, hbk, hcs, hnc, hcm', hcr⟩ := hob
    have hb := run_bounds (P := P) (w := w) hr (b := true) (l := k) (len := k) (cap := c) hlo hhi hkm hnc
    refine ⟨.slice (some ⟨b, if c = k then 0 else k * i2.size, none⟩) (m - k) (c - k), ?_, .slo hM (by omega) hm⟩
    by_cases hc : c = k
    · subst hc; simp [Instr.sliceAt, Instr.slice, run_underlying u1, hb, hs]
    · simp [Instr.sliceAt, Instr.slice, run_underlying u1, hb, hs, hc, Addr.add_lit]; try omega
/-- A row's end moved onto its front: nothing grows. -/
theorem ops_appendOwn (hΓ : TOK P Γ) {t te : TypeId} {i1 i2 : TI} {x y : Operand} {id n i j m : Nat} {ds : List D} (h1 : Γ t = some i1) (h1' : i1.desc = .slice te) (h2 : Γ te = some i2)
    (hx : fr.ev x = some (.sl id i)) (hy : fr.ev y = some (.slo id i2.size j m)) (ho : hp[id]? = some (.row te i2.size n ds)) (hij : i ≤ j) (hjm : j + m = n) :
    OpS P N ⟨some d, .call ⟨.builtin .append, #[x, y], #[t, t]⟩, ty, pos, after, gd'⟩ fr hp (.sl id (i + m)) (hp.set id (.row te i2.size n (setAt ds (i * i2.size) (ds.drop (j * i2.size))))) := by
  intro Z w M a hr
  obtain ⟨u1, _⟩ := hΓ t _ h1
  rw [h1'] at u1
  obtain ⟨_, inf, e1, e2, e3, e4⟩ := hΓ te _ h2
  have hid : id < hp.length := (List.getElem?_eq_some_iff.1 ho).1
  have hag : Agr hp.length M M := ⟨Nat.le_of_eq hr.heap.len.symm, fun _ _ => rfl⟩
  have hvx := hr.ev hx
  have hvy := hr.ev hy
  generalize hxv : a.eval x = vx at hvx
  generalize hyv : a.eval y = vy at hvy
  have hid' : ∀ o, hp[id]? = some o → hp.set id o = hp := fun o h => by
    apply List.ext_getElem?
    intro q
    by_cases hq : q = id
    · subst hq; rw [List.getElem?_set_self hid, h]
    · rw [List.getElem?_set_ne (Ne.symm hq)]
  cases hvx with
  | slnil hM =>
    have hob := hr.heap.obj id _ _ ho hM
    obtain ⟨hd, hn0⟩ := hob
    subst hd
    have hm0 : m = 0 := by omega
    have hj0 : j = 0 := by omega
    subst hm0; subst hj0
    cases hvy with
    | slo hM2 _ _ => rw [hM] at hM2; cases hM2
    | slonil _ =>
      have hset : hp.set id (.row te i2.size n (setAt ([] : List D) (0 * i2.size) (([] : List D).drop (0 * i2.size)))) = hp := hid' _ (by rw [ho]; simp [setAt])
      rw [hset]
      exact ⟨.slice none 0 0, w, M, by simp [execOp, resolve, invoke, builtin, hxv, hyv, Builtin.append_, run_underlying u1, sizeOf, typeInfo, e1, Builtin.lenOf, Builtin.firstCells, storeCells], hr.heap, .slnil hM, .refl _ _, hag⟩
  | sl hM hn hcm =>
    rename_i b c
    have hob := hr.heap.obj id _ _ ho hM
    obtain ⟨hdl, cs, hbk, hcs, hnc, hcm', hcr⟩ := hob
    cases hvy with
    | slonil hM2 => rw [hM] at hM2; cases hM2
    | slo hM2 hn2 _ =>
      rw [hM] at hM2
      cases hM2
      let news := (cs.toList.drop (j * i2.size)).take (m * i2.size)
      have hmul : n * i2.size ≤ c * i2.size := Nat.mul_le_mul_right _ hnc
      have hjn : j * i2.size + m * i2.size = n * i2.size := by rw [← Nat.add_mul, hjm]
      have hijm : i * i2.size ≤ j * i2.size := Nat.mul_le_mul_right _ hij
      have hnl : news.length = m * i2.size := by simp only [news, List.length_take, List.length_drop, Array.length_toList, hcs]; omega
      have hng : ∀ (q : Nat) (u : Value), news[q]? = some u → cs[j * i2.size + q]? = some u ∧ q < m * i2.size := fun q u hq => by
        have hlt : q < m * i2.size := by rw [← hnl]; exact (List.getElem?_eq_some_iff.1 hq).1
        simp only [news] at hq
        rw [List.getElem?_take_of_lt hlt, List.getElem?_drop, Array.getElem?_toList] at hq
        exact ⟨hq, hlt⟩
      have hdl2 : (ds.drop (j * i2.size)).length = m * i2.size := by rw [List.length_drop, hdl]; omega
      have hdat : DataR w (ownZ Z hp M) news.toArray (ds.drop (j * i2.size)) := fun q dd hq => by
        have hlt : q < m * i2.size := by rw [← hdl2]; exact (List.getElem?_eq_some_iff.1 hq).1
        rw [List.getElem?_drop] at hq
        obtain ⟨v, f1, f2⟩ := hcr _ dd hq
        refine ⟨v, ?_, f2⟩
        rw [List.getElem?_toArray]
        simp only [news]
        rw [List.getElem?_take_of_lt hlt, List.getElem?_drop, Array.getElem?_toList]
        exact f1
      have h1c : ∀ u ∈ news, u.oneCell' = true := fun u hu => by
        obtain ⟨q, hq, rfl⟩ := List.getElem_of_mem hu
        have hq' := List.getElem?_eq_getElem hq
        obtain ⟨_, hlt⟩ := hng q _ hq'
        have hqd := List.getElem?_eq_getElem (l := ds.drop (j * i2.size)) (i := q) (by rw [hdl2]; exact hlt)
        obtain ⟨v, f1, f2⟩ := hdat q _ hqd
        rw [List.getElem?_toArray, hq'] at f1
        cases f1
        exact f2.one
      have hsl : (setAt ds (i * i2.size) (ds.drop (j * i2.size))).length = ds.length := setAt_length (by rw [hdl2, hdl]; omega)
      obtain ⟨w', r1, r2, r3⟩ := write_ok (P := P) (o' := .row te i2.size n (setAt ds (i * i2.size) (ds.drop (j * i2.size)))) hr.heap ho rfl hM hbk (off := i * i2.size) (vs := news) (by rw [hnl, hcs]; omega) h1c
        (fun w' hst hh => ⟨by rw [hsl, hdl], _, hh, by rw [List.size_toArray, setAt_length (by rw [hnl, Array.length_toList, hcs]; omega), Array.length_toList, hcs], hnc, hcm', by
          have := DataR.setAt (off := i * i2.size) hcr hdat (by rw [List.size_toArray, hnl, hdl2]) (by rw [hdl2, hdl]; omega) (by rw [hdl, hcs]; exact hmul)
          exact fun q dd hq => (this q dd hq).elim fun v hv => ⟨v, hv.1, hv.2.step hst⟩⟩) rfl
      refine ⟨.slice (some ⟨b, 0, none⟩) (i + m) c, w', M, ?_, r2, .sl hM (by omega) hcm, r3, hag⟩
      have hcell : ∀ q, w.cell? ⟨b, q, none⟩ = cs[q]? := fun q => cell_of_row w b q cs te _ hbk
      have hoff : ∀ q, q < m * i2.size → (if c = j then 0 else j * i2.size) + q = j * i2.size + q := fun q hq => by
        split
        · rename_i h; subst h
          have : m = 0 := by omega
          subst this; simp at hq
        · rfl
      have hfc := run_firstCells_some (P := P) w i2.size m ⟨b, if c = j then 0 else j * i2.size, none⟩ m (c - j) news hnl (fun q u hq => by
        obtain ⟨f1, f2⟩ := hng q u hq
        rw [Addr.add_lit, hoff q f2, hcell]; exact f1)
      have hroom : i + m ≤ c := by omega
      simp [execOp, resolve, invoke, builtin, hxv, hyv, Builtin.append_, run_underlying u1, sizeOf, typeInfo, e1, e2, Builtin.lenOf, hroom, hfc, Addr.add_lit, r1]

theorem cut3 {l z0 z1 z2 : List α} {a b : Int} (h0 : subZ l a b = some z0) (h1 : subZ l 0 a = some z1) (h2 : subZ l b (l.length : Int) = some z2) :
    (setAt l z1.length z2).length = l.length ∧ (z1 ++ z2).length ≤ l.length ∧ (setAt l z1.length z2).take (z1 ++ z2).length = z1 ++ z2 := by
  obtain ⟨a0, b0, ea, eb, c1, c2, rfl⟩ := subZ_ok h0
  obtain ⟨a1, b1, ea1, eb1, d1, d2, rfl⟩ := subZ_ok h1
  obtain ⟨a2, b2, ea2, eb2, f1, f2, rfl⟩ := subZ_ok h2
  obtain rfl : a1 = 0 := by omega
  obtain rfl : b1 = a0 := by omega
  obtain rfl : a2 = b0 := by omega
  obtain rfl : b2 = l.length := by omega
  have hlen : ((l.take b1).drop 0).length + ((l.take l.length).drop a2).length ≤ l.length := by simp; omega
  refine ⟨setAt_length hlen, by rw [List.length_append]; exact hlen, ?_⟩
  have e : ((l.take b1).drop 0).length = b1 := by simp; omega
  rw [e]
  unfold setAt
  rw [show (List.drop 0 (List.take b1 l)) = l.take b1 from List.drop_zero]
  rw [List.take_left']
  rfl

theorem ops_appendOwnT (hΓ : TOK P Γ) {t te : TypeId} {i1 i2 : TI} {x y : Operand} {id n i k m sz : Nat} {l z0 z1 z2 : List α} {a b : Int} (h0 : subZ l a b = some z0) (hz1 : subZ l 0 a = some z1) (hz2 : subZ l b (l.length : Int) = some z2) (h1 : Γ t = some i1) (h1' : i1.desc = .slice te) (h2 : Γ te = some i2)
    (hx : fr.ev x = some (.sl id i)) (hi : i = z1.length) (hy : fr.ev y = some (.slo id sz k m)) (hk : k = b.toNat) (hsz : sz = i2.size) (hm : m = z2.length) (ho : hp[id]? = some (.row te i2.size l.length (l.flatMap enc))) (henc : ∀ y, (enc y).length = i2.size) :
    OpS P N ⟨some d, .call ⟨.builtin .append, #[x, y], #[t, t]⟩, ty, pos, after, gd'⟩ fr hp (.sl id (z1 ++ z2).length) (hp.set id (.row te i2.size (setAt l z1.length z2).length ((setAt l z1.length z2).flatMap enc))) := by
  subst hi; subst hk; subst hsz; subst hm
  obtain ⟨g1, g2, g3⟩ := cut3 h0 hz1 hz2
  obtain ⟨a0, b0, ea, eb, c1, c2, _⟩ := subZ_ok h0
  obtain ⟨a1, b1, ea1, eb1, d1, d2, e1⟩ := subZ_ok hz1
  obtain ⟨a2, b2, ea2, eb2, f1, f2, e2⟩ := subZ_ok hz2
  obtain rfl : b2 = l.length := by omega
  have hz2l : z2.length = l.length - a2 := by rw [e2]; simp
  have hz1l : z1.length = a0 := by rw [e1]; simp; omega
  have hb : b.toNat = a2 := by omega
  have he : (setAt l z1.length z2).flatMap enc = setAt (l.flatMap enc) (z1.length * i2.size) ((l.flatMap enc).drop (a2 * i2.size)) := by
    unfold setAt
    rw [List.flatMap_append, List.flatMap_append, flat_take henc, flat_drop henc, ← flat_drop henc l a2, e2, List.take_length, flat_len henc, Nat.add_mul]
  rw [g1, he, List.length_append]
  rw [hb] at hy
  exact ops_appendOwn hΓ h1 h1' h2 hx hy ho (by omega) (by omega)

theorem op_pastT (hΓ : TOK P Γ) {t e te : TypeId} {i1 i2 : TI} {x : Operand} {lo hi : Option Operand} {n id sz m : Nat} {a b : Int} {ds : List D} {l r : List α} (h1 : Γ t = some i1) (h1' : i1.desc = .slice e) (h2 : Γ e = some i2) (hx : fr.ev x = some (.sl id n)) (ho : hp[id]? = some (.row te sz m ds)) (hm : m = l.length) (hlo : fr.bound lo 0 = some a) (hhi : fr.bound hi n = some b) (hn : n = r.length) (ha : a = (r.length : Int)) (hb : b = (l.length : Int)) (hkm : r.length ≤ l.length) :
    OpP P N ⟨some d, .slice t x lo hi none, ty, pos, after, gd'⟩ fr hp (.slo id i2.size r.length (l.drop r.length).length) := by
  rw [List.length_drop, ← hm]
  exact op_pastZ hΓ h1 h1' h2 hx ho hlo hhi ha (by rw [hb, hm]) (by rw [hm]; exact hkm) hn.symm

theorem ops_clearPastT (hΓ : TOK P Γ) {t te : TypeId} {i1 i2 : TI} {x : Operand} {id sz k n : Nat} {l r : List α} (hr : l.take r.length = r) (hle : r.length ≤ l.length) (h1 : Γ t = some i1) (h1' : i1.desc = .slice te) (h2 : Γ te = some i2) (hzc : Nat.beq i2.zero.cells.size i2.size = true) (hz1 : (i2.zero.cells.toList.all (·.oneCell')) = true)
    (hx : fr.ev x = some (.slo id sz k n)) (hk : k = r.length) (hsz : sz = i2.size) (hn : n = (l.drop r.length).length) (ho : hp[id]? = some (.row te i2.size l.length (l.flatMap enc))) (henc : ∀ y, (enc y).length = i2.size) :
    OpS P N ⟨none, .call ⟨.builtin .clear, #[x], #[t]⟩, ty, pos, after, gd'⟩ fr hp (.tup []) (hp.set id (.row te i2.size r.length (r.flatMap enc))) := by
  subst hsz; subst hn; subst hk
  have := ops_clear (P := P) (N := N) (ty := ty) (pos := pos) (after := after) (gd' := gd') hΓ h1 h1' h2 hzc hz1 hx (by rw [ho]; congr 2; rw [List.length_drop]; omega)
  rw [← flat_take henc, hr] at this
  exact this
end Go.Gk
namespace Go.Gk

/-- A slice with its tag. -/
abbrev Tl (α : Type) : Type := Nat × List α
def Slt {α : Type} (te : TypeId) (sz : Nat) (enc : α → List D) (s : Tl α) : D := .rt te sz s.1 s.2.length (s.2.flatMap enc)
def eT {α : Type} (te : TypeId) (sz : Nat) (enc : α → List D) (s : Tl α) : List D := [Slt te sz enc s]

/-- A new tag. -/
theorem tag_push {Z : Env} {hp hp1 : List Ob} {M : Mp} {w w' : World} {bg : Nat} {al al0 : List Bool} (T : Option Tg) (hr : RelH Z hp M w) (hbag : hp[bg]? = some (.bag al)) (hl : hp1.length = hp.length)
    (h1 : ∀ (i : Nat) (o : Ob), hp1[i]? = some o → o = .dead ∨ (i ≠ bg ∧ hp[i]? = some o) ∨ (i = bg ∧ o = .bag (al0 ++ [true]))) (hb1 : hp1[bg]? = some (.bag (al0 ++ [true])))
    (g1 : w.heap.size ≤ w'.heap.size) (g2 : w'.os = w.os) (g3 : w'.tape = w.tape) (g4 : w'.output = w.output) (hkeep : ∀ k, k < w.heap.size → (∀ y : Tg, T = some y → k ≠ y.b) → w'.heap[k]? = w.heap[k]?)
    (hlen : al0.length = al.length) (hal : ∀ t : Nat, al0[t]? = some true → al[t]? = some true)
    (hT : ∀ y : Tg, T = some y → (∃ cur : Array Value, w'.heap[y.b]? = some (.cells cur y.t (0, 0)) ∧ cur.size = y.c * y.sz ∧ y.n ≤ y.c ∧ y.c ≤ maxLen) ∧ (y.b < w.heap.size → own hp M y.b) ∧ ¬ obOwn hp1 M y.b ∧
      (∀ x : Tg, some x ∈ M.h → x.b = y.b → x.n * x.sz ≤ y.n * y.sz ∧ ∀ k, k < x.n * x.sz → w'.cell? ⟨x.b, k, none⟩ = w.cell? ⟨x.b, k, none⟩) ∧ (∀ (t : Nat) (x : Tg), al0[t]? = some true → M.h[t]? = some (some x) → x.b ≠ y.b)) :
    RelH Z hp1 ⟨M.l, M.h ++ [T]⟩ w' ∧ Stp w (own hp M) w' (own hp1 ⟨M.l, M.h ++ [T]⟩) ∧ Agr hp.length M ⟨M.l, M.h ++ [T]⟩ := by
  have hbl : bg < hp.length := (List.getElem?_eq_some_iff.1 hbag).1
  have hbm : M.l[bg]? = some none := by
    have e : M.l[bg]? = some (M.l[bg]'(by rw [hr.len]; exact hbl)) := List.getElem?_eq_getElem _
    have := hr.obj bg _ _ hbag e
    revert this
    rw [e]
    cases M.l[bg]'(by rw [hr.len]; exact hbl) with
    | none => exact fun _ => rfl
    | some _ => exact fun h => h.elim
  obtain ⟨q1, q2, q3⟩ := hr.obj bg _ _ hbag hbm
  have hg : hasBag hp := ⟨bg, al, hbag⟩
  have hg1 : hasBag hp1 := ⟨bg, _, hb1⟩
  have hmem : ∀ x : Tg, some x ∈ M.h ++ [T] → some x ∈ M.h ∨ T = some x := fun x hx => (List.mem_append.1 hx).imp id fun h => (List.mem_singleton.1 h).symm
  have hob : ∀ b, obOwn hp1 M b → obOwn hp M b := by
    rintro b ⟨i, o, c, e1, e2, e3⟩
    rcases h1 i o e1 with rfl | ⟨_, e⟩ | ⟨rfl, rfl⟩
    · cases e2
    · exact ⟨i, o, c, e, e2, e3⟩
    · rw [hbm] at e3; cases e3
  have hob' : ∀ b, obOwn hp1 ⟨M.l, M.h ++ [T]⟩ b → obOwn hp M b := fun b h => hob b h
  have hown : ∀ b, b < w.heap.size → own hp1 ⟨M.l, M.h ++ [T]⟩ b → own hp M b := by
    rintro b hb (h | ⟨_, x, hx, rfl⟩)
    · exact .inl (hob b h)
    · rcases hmem x hx with hx | hx
      · exact .inr ⟨hg, x, hx, rfl⟩
      · exact (hT x hx).2.1 hb
  have hfz : ∀ x : Tg, some x ∈ M.h → ∀ k, k < x.n * x.sz → w'.cell? ⟨x.b, k, none⟩ = w.cell? ⟨x.b, k, none⟩ := fun x hx k hk => by
    by_cases hxy : ∃ y, T = some y ∧ x.b = y.b
    · obtain ⟨y, hy, e⟩ := hxy
      exact ((hT y hy).2.2.2.1 x hx e).2 k hk
    · exact World.cell?_of_block (hkeep _ (hr.bags.tgs x hx).1 fun y hy e => hxy ⟨y, hy, e⟩)
  have hst : Stp w (own hp M) w' (own hp1 ⟨M.l, M.h ++ [T]⟩) := by
    refine ⟨g1, fun b hb hn => hkeep b hb fun y hy e => ?_, hown, g2, g3, g4, ⟨[T], rfl, fun x hx hb => ?_⟩, hfz, fun h => absurd hg h⟩
    · subst e; exact hn ((hT y hy).2.1 hb)
    · exact (hT x (List.mem_singleton.1 hx).symm).2.1 hb
  refine ⟨⟨by rw [hl]; exact hr.len, fun i o m e1 e2 => ?_, fun b hb hz => ?_, fun b hb => Nat.lt_of_lt_of_le (hr.old b hb) g1, hr.amb_stp hst, fun i j oi oj b c c' hi hj li lj mi mj => ?_, ⟨fun x hx => ⟨?_, fun h => ?_⟩, fun i j a a' hi hj => ?_⟩⟩, hst, ⟨by rw [show (⟨M.l, M.h ++ [T]⟩ : Mp).l.length = M.l.length from rfl, hr.len]; exact Nat.le_refl _, fun _ _ => rfl⟩⟩
  · have e2' : M.l[i]? = some m := e2
    rcases h1 i o e1 with rfl | ⟨hi, e⟩ | ⟨rfl, rfl⟩
    · cases m <;> trivial
    · have := hr.obj i o m e e2'
      refine this.move (k := M.l.length) (M := M) (M' := ⟨M.l, M.h ++ [T]⟩) (stp_z Z hst) (fun _ _ => rfl) this.bel (fun b c em hl2 => ?_) fun a ea => ?_
      · subst em
        refine hkeep b (hr.block_ob ⟨i, o, c, e, hl2, e2'⟩) fun y hy eb => (hT y hy).2.2.1 ⟨i, o, c, e1, hl2, eb ▸ e2'⟩
      · subst ea
        exact absurd (hr.bags.one _ _ _ _ e hbag) hi
    · rw [hbm] at e2'
      cases e2'
      have hnew : ∀ (t : Nat) (x : Tg), (al0 ++ [true])[t]? = some true → (M.h ++ [T])[t]? = some (some x) → (t < al.length ∧ al0[t]? = some true ∧ M.h[t]? = some (some x)) ∨ (t = al.length ∧ T = some x) := fun t x ha hx => by
        by_cases ht : t < al.length
        · rw [List.getElem?_append_left (by omega)] at ha
          rw [List.getElem?_append_left (by omega)] at hx
          exact .inl ⟨ht, ha, hx⟩
        · rw [List.getElem?_append_right (by omega)] at hx
          rw [List.getElem?_append_right (by omega)] at ha
          have hk : t - M.h.length = 0 := by
            have := (List.getElem?_eq_some_iff.1 hx).1
            simp at this; exact this
          rw [hk] at hx
          simp at hx
          exact .inr ⟨by omega, hx⟩
      refine ⟨by simp; omega, fun t x ha hx => ?_, fun t t' x x' ha hx hx' hb => ?_⟩
      · rcases hnew t x ha hx with ⟨_, ha', hx'⟩ | ⟨_, hy⟩
        · obtain ⟨cs, k1, k2⟩ := q2 t x (hal t ha') hx'
          refine ⟨cs, ?_, k2⟩
          rw [hkeep _ (hr.bags.tgs x (List.mem_of_getElem? hx')).1 fun y hy => (hT y hy).2.2.2.2 t x ha' hx']
          exact k1
        · obtain ⟨⟨cur, k1, k2, k3, k4⟩, _⟩ := hT x hy
          exact ⟨cur, k1, k2, k3, k4⟩
      · have hx2 : (t' < al.length ∧ M.h[t']? = some (some x')) ∨ (t' = al.length ∧ T = some x') := by
          have hx'' : (M.h ++ [T])[t']? = some (some x') := hx'
          by_cases ht : t' < al.length
          · rw [List.getElem?_append_left (by omega)] at hx''; exact .inl ⟨ht, hx''⟩
          · rw [List.getElem?_append_right (by omega)] at hx''
            have hk : t' - M.h.length = 0 := by
              have := (List.getElem?_eq_some_iff.1 hx'').1
              simp at this; exact this
            rw [hk] at hx''
            simp at hx''
            exact .inr ⟨by omega, hx''⟩
        rcases hnew t x ha hx with ⟨ht, ha', hx1⟩ | ⟨ht, hy⟩
        · rcases hx2 with ⟨ht', hx2⟩ | ⟨ht', hy'⟩
          · obtain ⟨k1, k2⟩ := q3 t t' x x' (hal t ha') hx1 hx2 hb
            refine ⟨k1, fun ha2 => k2 (hal t' ?_)⟩
            rw [List.getElem?_append_left (by omega)] at ha2
            exact ha2
          · exact absurd hb.symm ((hT x' hy').2.2.2.2 t x ha' hx1)
        · rcases hx2 with ⟨ht', hx2⟩ | ⟨ht', hy'⟩
          · refine ⟨((hT x hy).2.2.2.1 x' (List.mem_of_getElem? hx2) hb).1, fun ha2 => ?_⟩
            rw [List.getElem?_append_left (by omega)] at ha2
            exact absurd hb ((hT x hy).2.2.2.2 t' x' ha2 hx2)
          · rw [hy] at hy'
            cases hy'
            exact ⟨Nat.le_refl _, fun _ => by omega⟩
  · by_cases hb' : b < w.heap.size
    · exact hr.apart b (hown b hb' hb) hz
    · exact absurd (hr.old b hz) hb'
  · have key : ∀ (i : Nat) (o : Ob) (c : Nat), hp1[i]? = some o → o.live = true → M.l[i]? = some (some (b, c)) → hp[i]? = some o := fun i o c e1 e2 e3 => by
      rcases h1 i o e1 with rfl | ⟨_, e⟩ | ⟨rfl, rfl⟩
      · cases e2
      · exact e
      · rw [hbm] at e3; cases e3
    exact hr.inj i j oi oj b c c' (key i oi c hi li mi) (key j oj c' hj lj mj) li lj mi mj
  · rcases hmem x hx with hx | hx
    · exact Nat.lt_of_lt_of_le (hr.bags.tgs x hx).1 g1
    · obtain ⟨⟨cur, k1, _⟩, _⟩ := hT x hx
      exact (Array.getElem?_eq_some_iff.1 k1).1
  · rcases hmem x hx with hx | hx
    · exact (hr.bags.tgs x hx).2 (hob _ h)
    · exact (hT x hx).2.2.1 h
  · have key : ∀ (i : Nat) (a : List Bool), hp1[i]? = some (.bag a) → i = bg := fun i a e => by
      rcases h1 i _ e with h | ⟨_, h⟩ | ⟨h, _⟩
      · cases h
      · exact hr.bags.one _ _ _ _ h hbag
      · exact h
    rw [key i a hi, key j a' hj]

section
variable {P : Program} {Γ : TypeId → Option TI} {F N : Nat} {Q : GPost} {fr fr' : Fr} {hp hp' : List Ob} {ks : List Kt}
variable {ops : Array Oper} {rest : List Oper} {g : G} {α : Type} {enc : α → List D}
variable {d : Tmp} {op : Op} {ty : TypeId} {pos : String} {after : Array Edge} {gd : Option (Nat × Bool)}

/-- What append does with a slice that has a tag (or is full), case by case. -/
theorem app_tag {Z : Env} {M : Mp} {w : World} {bg t te tyo : TypeId} {i2 : TI} {al al0 : List Bool} {n m tg : Nat} {ds ys : List D} {sv xv : Value} (hΓ : TOK P Γ) (u1 : P.underlying t = some (.slice te)) (h2 : Γ te = some i2) (hz : Nat.beq i2.zero.cells.size i2.size = true) (hz0 : Nat.blt 0 i2.size = true)
    (hr : RelH Z hp M w) (hx : VD w (ownZ Z hp M) (.rt te i2.size tg n ds) sv) (hdl : ds.length = n * i2.size) (hy : VD w (ownZ Z hp M) (.ro m ys) xv) (hl : ys.length = m * i2.size) (hb : (n + m) * i2.bytes ≤ 140737488355328) (hm : n + m ≤ maxLen) (hm0 : 0 < m)
    (hbag : hp[bg]? = some (.bag al)) (htg : (tg = 1 ∧ al0 = al) ∨ ∃ q, tg = q + 2 ∧ al[q]? = some true ∧ al0 = al.set q false) :
    ∃ (v' : Value) (w' : World) (gb c' : Nat) (cur : Array Value), (Builtin.append_ #[t, t] tyo #[sv, xv]).run P w = .ok v' w' ∧ w.heap.size ≤ w'.heap.size ∧ w'.os = w.os ∧ w'.tape = w.tape ∧ w'.output = w.output ∧ v' = .slice (some ⟨gb, 0, none⟩) (n + m) c' ∧
      w'.heap[gb]? = some (.cells cur te (0, 0)) ∧ cur.size = c' * i2.size ∧ n + m ≤ c' ∧ c' ≤ maxLen ∧ (∀ (j : Nat) (dd : D), (ds ++ ys)[j]? = some dd → ∃ u, cur[j]? = some u ∧ VD w (ownZ Z hp M) dd u) ∧ (∀ k, k < w.heap.size → k ≠ gb → w'.heap[k]? = w.heap[k]?) ∧
      (w.heap.size ≤ gb ∨ ∃ (q : Nat) (x : Tg), tg = q + 2 ∧ al[q]? = some true ∧ al0 = al.set q false ∧ M.h[q]? = some (some x) ∧ x.b = gb ∧ x.n = n ∧ x.sz = i2.size ∧ ∀ k, k < n * i2.size → w'.cell? ⟨gb, k, none⟩ = w.cell? ⟨gb, k, none⟩) := by
  obtain ⟨_, inf, e1, e2, e3, e4⟩ := hΓ te _ h2
  have hzs : i2.zero.cells.size = inf.size := by rw [e2]; exact Nat.eq_of_beq_eq_true hz
  have hpos : 0 < i2.size := nblt.1 hz0
  cases hx with
  | rt _ _ _ _ _ _ hx hT =>
  -- the source
  obtain ⟨xb, xo, xc, news, rfl, hnl, hnc, hnv, hn1⟩ : ∃ (b off cap : Nat) (vs : List Value), xv = .slice (some ⟨b, off, none⟩) m cap ∧ vs.length = ys.length ∧ (∀ (j : Nat) (u : Value), vs[j]? = some u → w.cell? ⟨b, off + j, none⟩ = some u) ∧ (∀ (j : Nat) (u : Value) (d : D), vs[j]? = some u → ys[j]? = some d → VD w (ownZ Z hp M) d u) ∧ ∀ u ∈ vs, u.oneCell' = true := by
    rcases data_cells hy with ⟨_, rfl, _⟩ | h
    · omega
    · exact h
  have hnews : ∀ (cur : Array Value), (∀ j u, news[j]? = some u → cur[n * i2.size + j]? = some u) → ∀ (j : Nat) (dd : D), ys[j]? = some dd → ∃ u, cur[n * i2.size + j]? = some u ∧ VD w (ownZ Z hp M) dd u := fun cur hc j dd hj => by
    have hlt : j < news.length := by rw [hnl]; exact (List.getElem?_eq_some_iff.1 hj).1
    have := List.getElem?_eq_getElem hlt
    exact ⟨_, hc j _ this, hnv j _ dd this hj⟩
  have hboth : ∀ (cur : Array Value), (∀ (j : Nat) (dd : D), ds[j]? = some dd → ∃ u, cur[j]? = some u ∧ VD w (ownZ Z hp M) dd u) → (∀ j u, news[j]? = some u → cur[n * i2.size + j]? = some u) → ∀ (j : Nat) (dd : D), (ds ++ ys)[j]? = some dd → ∃ u, cur[j]? = some u ∧ VD w (ownZ Z hp M) dd u := fun cur h1 h2 j dd hj => by
    by_cases hjd : j < ds.length
    · rw [List.getElem?_append_left hjd] at hj; exact h1 j dd hj
    · rw [List.getElem?_append_right (by omega)] at hj
      obtain ⟨u, k1, k2⟩ := hnews cur h2 _ dd hj
      exact ⟨u, by rw [← k1]; congr 1; omega, k2⟩
  -- a nil slice
  have nilCase : sv = .slice none 0 0 → n = 0 → ∃ (v' : Value) (w' : World) (gb c' : Nat) (cur : Array Value), (Builtin.append_ #[t, t] tyo #[sv, .slice (some ⟨xb, xo, none⟩) m xc]).run P w = .ok v' w' ∧ w.heap.size ≤ w'.heap.size ∧ w'.os = w.os ∧ w'.tape = w.tape ∧ w'.output = w.output ∧ v' = .slice (some ⟨gb, 0, none⟩) (n + m) c' ∧
      w'.heap[gb]? = some (.cells cur te (0, 0)) ∧ cur.size = c' * i2.size ∧ n + m ≤ c' ∧ c' ≤ maxLen ∧ (∀ (j : Nat) (dd : D), (ds ++ ys)[j]? = some dd → ∃ u, cur[j]? = some u ∧ VD w (ownZ Z hp M) dd u) ∧ (∀ k, k < w.heap.size → k ≠ gb → w'.heap[k]? = w.heap[k]?) ∧ w.heap.size ≤ gb := by
    rintro rfl rfl
    obtain ⟨v', w', mo', hrun, k1, k2, k3, k4, hres⟩ := app_core (P := P) (tyo := tyo) (n := 0) (m := m) (cs0 := #[]) (sv := .slice none 0 0) none u1 e1 e4 hzs (by rw [e2]; exact hpos) (.inl ⟨rfl, rfl, rfl⟩) (.inr ⟨xb, xo, xc, rfl, hnc⟩) (by rw [hnl, hl, e2]) hn1 hm (by rw [e3]; exact hb)
    rcases hres with ⟨_, _, r3, _⟩ | ⟨b', c', cur, r1, r2, r3, r4, r5, r6, r7, r8, r9, r10⟩
    · omega
    · rcases r10 with ⟨c, hc⟩ | r10
      · cases hc
      · have hds : ds = [] := List.eq_nil_of_length_eq_zero (by simpa using hdl)
        subst hds
        exact ⟨v', w', b', c', cur, hrun, k1, k2, k3, k4, r2, r3, by rw [r4, e2], r5, r6, hboth cur (fun j dd h => by simp at h) (fun j u h => by have := r8 j u h; rw [e2] at this; exact this), r9, by omega⟩
  rcases htg with ⟨rfl, rfl⟩ | ⟨q, rfl, hq, rfl⟩
  · -- full
    obtain ⟨a, rfl⟩ := hT
    rcases data_cells hx with ⟨e, rfl, rfl⟩ | ⟨b, off, cap, vs, e, hvl, hvc, hvv, _⟩
    · obtain ⟨v', w', gb, c', cur, k1, k2, k3, k4, k5, k6, k7, k8, k9, k10, k11, k12, k13⟩ := nilCase e rfl
      exact ⟨v', w', gb, c', cur, k1, k2, k3, k4, k5, k6, k7, k8, k9, k10, k11, k12, .inl k13⟩
    · cases e
      obtain ⟨v', w', r1, r2, r3⟩ := run_append_arg_grows (P := P) w t tyo te inf i2.zero inf.size inf.bytes u1 e1 e4 rfl rfl hzs (by rw [e2]; exact hpos) ⟨b, off, none⟩ n n vs (by rw [hvl, hdl, e2]) (fun j u hj => by rw [Addr.add_lit]; exact hvc j u hj) ⟨xb, xo, none⟩ m xc news (by rw [hnl, hl, e2]) (fun j u hj => by rw [Addr.add_lit]; exact hnc j u hj) (by omega) hm (by rw [e3]; exact hb)
      rcases r2.2 with ⟨rfl, hn0⟩ | ⟨gb, c', cur, rfl, q1, q2, q3, q4, q5, q6⟩
      · omega
      · have hcur : ∀ j u, (vs ++ news)[j]? = some u → cur[j]? = some u := fun j u hj => by
          have hlt := (List.getElem?_eq_some_iff.1 hj).1
          rw [← q6, List.getElem?_take_of_lt (by rw [List.length_append, hvl, hnl, hdl, hl, ← Nat.add_mul, ← e2] at hlt; exact hlt)] at hj
          simpa using hj
        refine ⟨_, w', gb, c', cur, r1, r3.size, r3.os, r3.tape, r3.output, rfl, q2, by rw [q5, e2], q3, q4, hboth cur (fun j dd hj => ?_) (fun j u hj => ?_), fun k hk hne => r3.block k hk (by simp), .inl q1⟩
        · have hlt : j < vs.length := by rw [hvl]; exact (List.getElem?_eq_some_iff.1 hj).1
          have hv := List.getElem?_eq_getElem hlt
          exact ⟨_, hcur j _ (by rw [List.getElem?_append_left hlt]; exact hv), hvv j _ dd hv hj⟩
        · refine hcur _ u ?_
          rw [List.getElem?_append_right (by rw [hvl, hdl]; omega), hvl, hdl]
          rw [← hj]; congr 1; omega
  · rcases hT with ⟨hn, rfl⟩ | ⟨x, hxh, hxn, hxt, hxs, rfl⟩
    · have : n = 0 := by
        cases hx with
        | nil => rfl
      obtain ⟨v', w', gb, c', cur, k1, k2, k3, k4, k5, k6, k7, k8, k9, k10, k11, k12, k13⟩ := nilCase rfl this
      exact ⟨v', w', gb, c', cur, k1, k2, k3, k4, k5, k6, k7, k8, k9, k10, k11, k12, .inl k13⟩
    · subst hxn; subst hxt
      have hbl : bg < hp.length := (List.getElem?_eq_some_iff.1 hbag).1
      have e : M.l[bg]? = some (M.l[bg]'(by rw [hr.len]; exact hbl)) := List.getElem?_eq_getElem _
      have hbo := hr.obj bg _ _ hbag e
      obtain ⟨cs0, c1, c2, c3, c4⟩ : ∃ cs : Array Value, w.heap[x.b]? = some (.cells cs x.t (0, 0)) ∧ cs.size = x.c * x.sz ∧ x.n ≤ x.c ∧ x.c ≤ maxLen := by
        revert hbo
        cases M.l[bg]'(by rw [hr.len]; exact hbl) with
        | none => exact fun h => h.2.1 q x hq hxh
        | some _ => exact fun h => h.elim
      obtain ⟨v', w', mo', hrun, k1, k2, k3, k4, hres⟩ := app_core (P := P) (tyo := tyo) (n := x.n) (m := m) (cs0 := cs0) (sv := .slice (some ⟨x.b, 0, none⟩) x.n x.c) (some (x.b, x.c)) u1 e1 e4 hzs (by rw [e2]; exact hpos) (.inr ⟨x.b, x.c, rfl, rfl, c1, by rw [c2, hxs, e2], c3, c4⟩) (.inr ⟨xb, xo, xc, rfl, hnc⟩) (by rw [hnl, hl, e2]) hn1 hm (by rw [e3]; exact hb)
      have holds : ∀ (j : Nat) (dd : D), ds[j]? = some dd → ∃ u, cs0[j]? = some u ∧ VD w (ownZ Z hp M) dd u := fun j dd hj => by
        rcases data_cells hx with ⟨e, _⟩ | ⟨b, off, cap, vs, e, hvl, hvc, hvv, _⟩
        · simp at e
        · simp only [Value.slice.injEq, Option.some.injEq, Addr.mk.injEq] at e
          obtain ⟨⟨e1, e2, _⟩, _⟩ := e
          subst e2
          have hlt : j < vs.length := by rw [hvl]; exact (List.getElem?_eq_some_iff.1 hj).1
          have hv := List.getElem?_eq_getElem hlt
          have := hvc j _ hv
          rw [Nat.zero_add, ← e1, cell_of_row w x.b j cs0 _ _ c1] at this
          exact ⟨_, this, hvv j _ dd hv hj⟩
      rcases hres with ⟨_, _, r3, _⟩ | ⟨b', c', cur, r1, r2, r3, r4, r5, r6, r7, r8, r9, r10⟩
      · omega
      · have hold' : ∀ (j : Nat) (dd : D), ds[j]? = some dd → ∃ u, cur[j]? = some u ∧ VD w (ownZ Z hp M) dd u := fun j dd hj => by
          obtain ⟨u, f1, f2⟩ := holds j dd hj
          have hlt := (List.getElem?_eq_some_iff.1 hj).1
          exact ⟨u, by rw [r7 j (by rw [← e2] at hdl; omega) (by simp)]; exact f1, f2⟩
        refine ⟨v', w', b', c', cur, hrun, k1, k2, k3, k4, r2, r3, by rw [r4, e2], r5, r6, hboth cur hold' (fun j u h => by have := r8 j u h; rw [e2] at this; exact this), r9, ?_⟩
        rcases r10 with ⟨c, hc⟩ | r10
        · cases hc
          refine .inr ⟨q, x, rfl, hq, rfl, hxh, rfl, rfl, hxs, fun k hk => ?_⟩
          rw [cell_of_row w' x.b k cur _ _ r3, cell_of_row w x.b k cs0 _ _ c1]
          exact r7 k (by rw [e2]; exact hk) (by simp)
        · exact .inl (by omega)

def appT {α : Type} (al : List Bool) (s : Tl α) (m : List α) : Option (Tl α × List Bool) :=
  bi (apd s.2 m) fun r => bif m.isEmpty then some (s, al) else match s.1 with
    | 0 => none
    | 1 => some ((al.length + 2, r), al ++ [true])
    | t + 2 => bif (al[t]?).getD false then some ((al.length + 2, r), al.set t false ++ [true]) else none
theorem appT_ok {al al' : List Bool} {s r : Tl α} {m : List α} (h : appT al s m = some (r, al')) : apd s.2 m = some (s.2 ++ m) ∧ ((m = [] ∧ r = s ∧ al' = al) ∨ (m ≠ [] ∧ r = (al.length + 2, s.2 ++ m) ∧ ∃ al0, al' = al0 ++ [true] ∧ ((s.1 = 1 ∧ al0 = al) ∨ ∃ q, s.1 = q + 2 ∧ al[q]? = some true ∧ al0 = al.set q false))) := by
  unfold appT at h
  obtain ⟨r0, hr, h⟩ := bi_ok h
  obtain ⟨rfl, hle⟩ := apd_ok hr
  refine ⟨hr, ?_⟩
  cases m with
  | nil => simp at h; exact .inl ⟨rfl, h.1.symm, h.2.symm⟩
  | cons y m =>
    right
    simp only [List.isEmpty_cons, cond_false] at h
    refine ⟨by simp, ?_⟩
    obtain ⟨t, l⟩ := s
    match t, h with
    | 1, h => simp at h; exact ⟨h.1.symm, al, h.2.symm, .inl ⟨rfl, rfl⟩⟩
    | t + 2, h =>
      simp only at h
      cases hc : (al[t]?).getD false with
      | false => rw [hc] at h; cases h
      | true =>
        rw [hc] at h
        simp at h
        refine ⟨h.1.symm, al.set t false, h.2.symm, .inr ⟨t, rfl, ?_, rfl⟩⟩
        cases hq : al[t]? with
        | none => rw [hq] at hc; cases hc
        | some b => rw [hq] at hc; simp at hc; rw [hc]

theorem run_append_zero {w : World} {t te tyo : TypeId} {inf : TypeInfo} {n c : Nat} {a : Option Addr} {xv : Value} (hu : P.underlying t = some (.slice te)) (hi : P.info? te = some inf) (hn : n ≤ c) (hx : (xv = .slice none 0 0) ∨ ∃ b cap, xv = .slice (some b) 0 cap) :
    (Builtin.append_ #[t, t] tyo #[.slice a n c, xv]).run P w = .ok (.slice a n c) w := by
  rcases hx with rfl | ⟨b, cap, rfl⟩
  · cases a <;> simp [Builtin.append_, run_underlying hu, sizeOf, typeInfo, hi, Builtin.lenOf, Builtin.firstCells, hn, storeCells]
  · cases a <;> simp [Builtin.append_, run_underlying hu, sizeOf, typeInfo, hi, Builtin.lenOf, Builtin.firstCells, loadCells, loadCellsFrom, hn, storeCells]

theorem vd_ro_le {w : World} {O : Ow} {n : Nat} {xs : List D} {v : Value} (h : VD w O (.ro n xs) v) : ∃ a c, v = .slice a n c ∧ n ≤ c := by
  cases h with
  | nil => exact ⟨_, _, rfl, Nat.le_refl _⟩
  | ro _ _ b off cap vs h3 h4 h5 => exact ⟨_, _, rfl, h5⟩
/-- APPEND to a slice that has a tag. -/
theorem ops_appT (hΓ : TOK P Γ) {t te : TypeId} {i1 i2 : TI} {x y : Operand} {bg : Nat} {s r : Tl α} {m : List α} {al al' : List Bool} {hp2 : List Ob} (hz : appT al s m = some (r, al')) (h1 : Γ t = some i1) (h1' : i1.desc = .slice te) (h2 : Γ te = some i2) (hzc : Nat.beq i2.zero.cells.size i2.size = true) (hz0 : Nat.blt 0 i2.size = true)
    (hx : fr.ev x = some (.d (Slt te i2.size enc s))) (hy : fr.ev y = some (.d (Sl enc m))) (hbag : hp[bg]? = some (.bag al)) (henc : ∀ y, (enc y).length = i2.size) (hbytes : Nat.ble (4294967296 * i2.bytes) 140737488355328 = true) (hhp : hp.set bg (.bag al') = hp2) :
    OpS P N ⟨some d, .call ⟨.builtin .append, #[x, y], #[t, t]⟩, ty, pos, after, gd⟩ fr hp (.d (Slt te i2.size enc r)) hp2 := by
  subst hhp
  intro Z w M a hr
  obtain ⟨u1, _⟩ := hΓ t _ h1
  rw [h1'] at u1
  have hvx := hr.ev hx
  have hvy := hr.ev hy
  obtain ⟨hap, hcase⟩ := appT_ok hz
  obtain ⟨_, hle⟩ := apd_ok hap
  generalize hvvx : a.eval x = vx at hvx
  generalize hvvy : a.eval y = vy at hvy
  cases hvx with
  | d hvx =>
  cases hvy with
  | d hvy =>
  have hb := Nat.le_of_ble_eq_true hbytes
  have hmul : (s.2.length + m.length) * i2.bytes ≤ 4294967296 * i2.bytes := Nat.mul_le_mul_right _ hle
  rcases hcase with ⟨rfl, rfl, rfl⟩ | ⟨hmne, rfl, al0, rfl, htg⟩
  · obtain ⟨_, inf, e1, e2, e3, e4⟩ := hΓ te _ h2
    have hset : hp.set bg (.bag al') = hp := by
      apply List.ext_getElem?
      intro j
      by_cases hj : bg = j
      · subst hj; rw [List.getElem?_set_self (List.getElem?_eq_some_iff.1 hbag).1, hbag]
      · rw [List.getElem?_set_ne hj]
    rw [hset]
    have hrun : (Builtin.append_ #[t, t] ty #[vx, vy]).run P w = .ok vx w := by
      have hxx : ∃ a' n' c', vx = .slice a' n' c' ∧ n' ≤ c' := by
        cases hvx with
        | rt _ _ _ _ _ _ hx' _ => exact let ⟨a', c', e, h⟩ := vd_ro_le hx'; ⟨a', _, c', e, h⟩
      obtain ⟨a', n', c', rfl, hn'⟩ := hxx
      refine run_append_zero u1 e1 hn' ?_
      rcases data_cells hvy with ⟨e, _⟩ | ⟨b, off, cap, vs, e, _⟩
      · exact .inl e
      · exact .inr ⟨_, _, e⟩
    exact ⟨vx, w, M, by simp [execOp, resolve, invoke, builtin, hvvx, hvvy, hrun], hr.heap, .d hvx, .refl _ _, ⟨Nat.le_of_eq hr.heap.len.symm, fun _ _ => rfl⟩⟩
  · have hm0 : 0 < m.length := by cases m with
      | nil => exact absurd rfl hmne
      | cons _ _ => simp
    obtain ⟨v', w', gb, c', cur, k1, k2, k3, k4, k5, k6, k7, k8, k9, k10, k11, k12, k13⟩ := app_tag (P := P) (tyo := ty) (bg := bg) hΓ u1 h2 hzc hz0 hr.heap hvx (flat_len henc s.2) hvy (flat_len henc m) (by omega) (by simp only [maxLen]; omega) hm0 hbag htg
    have hbl : bg < hp.length := (List.getElem?_eq_some_iff.1 hbag).1
    have hlen : al0.length = al.length := by rcases htg with ⟨_, rfl⟩ | ⟨q, _, _, rfl⟩ <;> simp
    have hal : ∀ t : Nat, al0[t]? = some true → al[t]? = some true := fun t ht => by
      rcases htg with ⟨_, rfl⟩ | ⟨q, _, _, rfl⟩
      · exact ht
      · by_cases hqt : q = t
        · subst hqt
          have hl := (List.getElem?_eq_some_iff.1 ht).1
          rw [List.getElem?_set_self (by simpa using hl)] at ht
          cases ht
        · rw [List.getElem?_set_ne hqt] at ht; exact ht
    have hobg : ¬ obOwn (hp.set bg (.bag (al0 ++ [true]))) M gb := by
      rintro ⟨i, o, c, e1, e2, e3⟩
      have hold : hp[i]? = some o ∧ o.live = true := by
        by_cases hi : bg = i
        · subst hi
          exfalso
          have := hr.heap.obj bg _ _ hbag e3
          exact this
        · rw [List.getElem?_set_ne hi] at e1; exact ⟨e1, e2⟩
      rcases k13 with h | ⟨q, x, _, _, _, hxh, rfl, _⟩
      · have := hr.heap.block_ob ⟨i, o, c, hold.1, hold.2, e3⟩; omega
      · exact (hr.heap.bags.tgs x (List.mem_of_getElem? hxh)).2 ⟨i, o, c, hold.1, hold.2, e3⟩
    have hbo : al.length = M.h.length ∧ (∀ (t t' : Nat) (x x' : Tg), al[t]? = some true → M.h[t]? = some (some x) → M.h[t']? = some (some x') → x'.b = x.b → x'.n * x'.sz ≤ x.n * x.sz ∧ (al[t']? = some true → t' = t)) := by
      have e : M.l[bg]? = some (M.l[bg]'(by rw [hr.heap.len]; exact hbl)) := List.getElem?_eq_getElem _
      have := hr.heap.obj bg _ _ hbag e
      revert this
      cases M.l[bg]'(by rw [hr.heap.len]; exact hbl) with
      | none => exact fun h => ⟨h.1, h.2.2⟩
      | some _ => exact fun h => h.elim
    obtain ⟨r1, r2, r3⟩ := tag_push (hp1 := hp.set bg (.bag (al0 ++ [true]))) (al0 := al0) (some ⟨gb, s.2.length + m.length, c', i2.size, te⟩) hr.heap hbag (by simp) (fun i o hi => by
        by_cases hib : bg = i
        · subst hib; rw [List.getElem?_set_self hbl] at hi; cases hi; exact .inr (.inr ⟨rfl, rfl⟩)
        · rw [List.getElem?_set_ne hib] at hi; exact .inr (.inl ⟨Ne.symm hib, hi⟩)) (List.getElem?_set_self hbl) k2 k3 k4 k5 (fun k hk hne => k12 k hk (hne _ rfl)) hlen hal (fun y hy => by
        cases hy
        refine ⟨⟨cur, k7, k8, k9, k10⟩, fun hlt => ?_, hobg, fun x hx hxb => ?_, fun t x ht hx hxb => ?_⟩
        · rcases k13 with h | ⟨q, x, _, _, _, hxh, hxb, _⟩
          · have : gb < w.heap.size := hlt; omega
          · exact .inr ⟨⟨bg, al, hbag⟩, x, List.mem_of_getElem? hxh, hxb⟩
        · rcases k13 with h | ⟨q, x0, _, hq, _, hxh, hxb0, hxn, hxs, hfz⟩
          · have := (hr.heap.bags.tgs x hx).1
            rw [hxb] at this
            exact absurd this (Nat.not_lt.2 h)
          · obtain ⟨t', ht'⟩ := List.getElem?_of_mem hx
            have hle2 := (hbo.2 q t' x0 x hq hxh ht' (hxb.trans hxb0.symm)).1
            have hmm : s.2.length * i2.size ≤ (s.2.length + m.length) * i2.size := Nat.mul_le_mul_right _ (by omega)
            rw [hxn, hxs] at hle2
            refine ⟨Nat.le_trans hle2 hmm, fun k hk => ?_⟩
            rw [hxb]
            exact hfz k (Nat.lt_of_lt_of_le hk hle2)
        · rcases k13 with h | ⟨q, x0, _, hq, ha0, hxh, hxb0, _⟩
          · have := (hr.heap.bags.tgs x (List.mem_of_getElem? hx)).1
            rw [hxb] at this
            exact absurd this (Nat.not_lt.2 h)
          · have hqt := (hbo.2 q t x0 x hq hxh hx (hxb.trans hxb0.symm)).2 (hal t ht)
            subst hqt
            rw [ha0, List.getElem?_set_self (List.getElem?_eq_some_iff.1 hq).1] at ht
            cases ht)
    refine ⟨v', w', _, by simp [execOp, resolve, invoke, builtin, hvvx, hvvy, k1], r1, .d (.rt _ _ _ _ _ _ ?_ ?_), r2, r3⟩
    · rw [k6]
      have hlr : (s.2 ++ m).length = s.2.length + m.length := List.length_append
      have hfl : ((s.2 ++ m).flatMap enc).length = (s.2.length + m.length) * i2.size := by rw [flat_len henc, hlr]
      rw [hlr]
      refine .ro _ _ gb 0 c' (fun j => cur.getD j undef) (Array.getElem?_eq_some_iff.1 k7).1 (fun j hj _ => ⟨_, List.mem_append_right _ (List.mem_singleton.2 rfl), rfl, ?_⟩) k9 k10 (fun j dd hj => ?_) (fun j dd hj => ?_)
      · rw [hfl] at hj; simpa using hj
      · rw [List.flatMap_append] at hj
        obtain ⟨u, f1, _⟩ := k11 j dd hj
        rw [Nat.zero_add, cell_of_row w' gb j cur _ _ k7]
        simp [f1]
      · rw [List.flatMap_append] at hj
        obtain ⟨u, f1, f2⟩ := k11 j dd hj
        simpa [f1] using f2.step (stp_z Z r2)
    · refine .inr ⟨⟨gb, s.2.length + m.length, c', i2.size, te⟩, ?_, by simp, rfl, rfl, by rw [k6]; simp⟩
      show (M.h ++ [_])[al.length]? = _
      rw [hbo.1]
      simp

/-! ### Tags that are taken as less, or made -/
theorem op_le {o : Oper} {g' : G} (h : OpP P N o fr hp g) (hle : g.Le g') : OpP P N o fr hp g' := fun Z w M a hr => let ⟨v, h1, h2⟩ := h Z w M a hr; ⟨v, h1, hle _ _ _ _ h2⟩
theorem ops_le {o : Oper} {g' : G} (h : OpS P N o fr hp g hp') (hle : g.Le g') : OpS P N o fr hp g' hp' := fun Z w M a hr => let ⟨v, w', M', h1, h2, h3, h4⟩ := h Z w M a hr; ⟨v, w', M', h1, h2, hle _ _ _ _ h3, h4⟩
theorem G.Le.unt {te : TypeId} {sz : Nat} {s : Tl α} : G.Le (.d (Slt te sz enc s)) (.d (Sl enc s.2)) := fun w O M v hv => by
  cases hv with
  | d h => cases h with
    | rt _ _ _ _ _ _ h _ => exact .d h
theorem G.Le.tag0 {te : TypeId} {sz : Nat} {l : List α} : G.Le (.d (Sl enc l)) (.d (Slt te sz enc (0, l))) := fun w O M v hv => by
  cases hv with
  | d h => exact .d (.rt _ _ _ _ _ _ h trivial)
theorem G.Le.tagN {te : TypeId} {sz : Nat} : G.Le (.d (.v (.slice none 0 0))) (.d (Slt te sz enc (1, []))) := fun w O M v hv => by
  rw [vr_v hv]
  exact .d (.rt _ _ _ _ _ _ .nil ⟨_, rfl⟩)
theorem G.Le.tagF {te : TypeId} {sz : Nat} {l : List α} : G.Le (.d (Slf enc l)) (.d (Slt te sz enc (1, l))) := fun w O M v hv => by
  cases hv with
  | d h =>
    have h' := h.unrf
    cases h with
    | rf _ _ b off vs hb hO hm hc hv => exact .d (.rt _ _ _ _ _ _ h' ⟨_, rfl⟩)

/-- A row of one's own is given a tag, and let go. -/
theorem gh_tag {te : TypeId} {sz n id bg : Nat} {ds : List D} {al : List Bool} (t : Nat) (ht : fr.get t = some (.sl id n)) (ho : hp[id]? = some (.row te sz n ds)) (hbag : hp[bg]? = some (.bag al)) : ∀ Z w M a, Rel Z hp M w fr a N →
    ∃ M', Rel Z ((hp.set id .dead).set bg (.bag (al ++ [true]))) M' w ((t, .d (.rt te sz (al.length + 2) n ds)) :: fr) a N ∧ Stp w (own hp M) w (own ((hp.set id .dead).set bg (.bag (al ++ [true]))) M') ∧ Agr hp.length M M' := by
  intro Z w M a hr
  have hid : id < hp.length := (List.getElem?_eq_some_iff.1 ho).1
  have hbl : bg < hp.length := (List.getElem?_eq_some_iff.1 hbag).1
  have hne : id ≠ bg := fun e => by subst e; rw [ho] at hbag; cases hbag
  have hcase : ∀ (i : Nat) (o : Ob), ((hp.set id .dead).set bg (.bag (al ++ [true])))[i]? = some o → o = .dead ∨ (i ≠ bg ∧ hp[i]? = some o) ∨ (i = bg ∧ o = .bag (al ++ [true])) := fun i o h => by
    by_cases hi : bg = i
    · subst hi; rw [List.getElem?_set_self (by simpa using hbl)] at h; cases h; exact .inr (.inr ⟨rfl, rfl⟩)
    · rw [List.getElem?_set_ne hi] at h
      by_cases hi2 : id = i
      · subst hi2; rw [List.getElem?_set_self hid] at h; cases h; exact .inl rfl
      · rw [List.getElem?_set_ne hi2] at h; exact .inr (.inl ⟨Ne.symm hi, h⟩)
  have hid1 : ((hp.set id .dead).set bg (.bag (al ++ [true])))[id]? = some .dead := by rw [List.getElem?_set_ne (Ne.symm hne), List.getElem?_set_self hid]
  have hlen : al.length = M.h.length := by
    have e : M.l[bg]? = some (M.l[bg]'(by rw [hr.heap.len]; exact hbl)) := List.getElem?_eq_getElem _
    have := hr.heap.obj bg _ _ hbag e
    revert this
    cases M.l[bg]'(by rw [hr.heap.len]; exact hbl) with
    | none => exact fun h => h.1
    | some _ => exact fun h => h.elim
  obtain ⟨v, hv, hvr⟩ := hr.fr t _ ht
  have fin : ∀ T : Option Tg, RelH Z ((hp.set id .dead).set bg (.bag (al ++ [true]))) ⟨M.l, M.h ++ [T]⟩ w ∧ Stp w (own hp M) w (own ((hp.set id .dead).set bg (.bag (al ++ [true]))) ⟨M.l, M.h ++ [T]⟩) ∧ Agr hp.length M ⟨M.l, M.h ++ [T]⟩ →
      VD w (ownZ Z ((hp.set id .dead).set bg (.bag (al ++ [true]))) ⟨M.l, M.h ++ [T]⟩) (.rt te sz (al.length + 2) n ds) v →
      ∃ M', Rel Z ((hp.set id .dead).set bg (.bag (al ++ [true]))) M' w ((t, .d (.rt te sz (al.length + 2) n ds)) :: fr) a N ∧ Stp w (own hp M) w (own ((hp.set id .dead).set bg (.bag (al ++ [true]))) M') ∧ Agr hp.length M M' := fun T ⟨r1, r2, r3⟩ hd => by
    refine ⟨_, ⟨r1, fun t' g h => ?_, hr.size, hr.defers⟩, r2, r3⟩
    simp only [Fr.get] at h
    cases hk : Nat.beq t t' with
    | true =>
      rw [hk] at h
      have := Nat.eq_of_beq_eq_true hk
      subst this
      cases h
      exact ⟨v, hv, .d hd⟩
    | false =>
      rw [hk] at h
      obtain ⟨u, h1, h2⟩ := hr.fr t' g h
      exact ⟨u, h1, VR.step (M := M) (M' := ⟨M.l, M.h ++ [T]⟩) (stp_z Z r2) (fun _ _ => rfl) h2⟩
  cases hvr with
  | slnil hM =>
    obtain ⟨rfl, _⟩ := hr.heap.obj id _ _ ho hM
    refine fin none (tag_push (al0 := al) none hr.heap hbag (by simp) hcase (List.getElem?_set_self (by simpa using hbl)) (Nat.le_refl _) rfl rfl rfl (fun _ _ _ => rfl) rfl (fun _ h => h) (fun y h => by cases h)) (.rt _ _ _ _ _ _ .nil (.inl ⟨?_, rfl⟩))
    show (M.h ++ [_])[al.length]? = _
    rw [hlen]
    simp
  | sl hM hn hm =>
    rename_i b c
    obtain ⟨hdl, cs, hb, hcs, hnc, hcm, hcr⟩ := hr.heap.obj id _ _ ho hM
    have hob : obOwn hp M b := ⟨id, _, c, ho, rfl, hM⟩
    have key := tag_push (hp1 := (hp.set id .dead).set bg (.bag (al ++ [true]))) (al0 := al) (w' := w) (some ⟨b, n, c, sz, te⟩) hr.heap hbag (by simp) hcase (List.getElem?_set_self (by simpa using hbl)) (Nat.le_refl _) rfl rfl rfl (fun _ _ _ => rfl) rfl (fun _ h => h) (fun y h => by
      cases h
      refine ⟨⟨cs, hb, hcs, hnc, hcm⟩, fun _ => .inl hob, ?_, fun x hx (e : x.b = b) => absurd hob (e ▸ (hr.heap.bags.tgs x hx).2), fun t x _ hx (e : x.b = b) => absurd hob (e ▸ (hr.heap.bags.tgs x (List.mem_of_getElem? hx)).2)⟩
      rintro ⟨i, o, c', e1, e2, e3⟩
      rcases hcase i o e1 with rfl | ⟨_, e⟩ | ⟨rfl, rfl⟩
      · cases e2
      · have hii := hr.heap.inj i id o _ b c' c e ho e2 rfl e3 hM
        subst hii
        rw [hid1] at e1
        cases e1; cases e2
      · have := hr.heap.obj _ _ _ hbag e3
        exact this)
    refine fin _ key (.rt _ _ _ _ _ _ (.ro n ds b 0 c (fun j => cs.getD j undef) (Array.getElem?_eq_some_iff.1 hb).1 (fun j hj _ => ⟨_, List.mem_append_right _ (List.mem_singleton.2 rfl), rfl, ?_⟩) hn hm (fun j dd hj => ?_) (fun j dd hj => ?_)) (.inr ⟨⟨b, n, c, sz, te⟩, ?_, rfl, rfl, rfl, rfl⟩))
    · rw [hdl] at hj; simpa using hj
    · obtain ⟨u, e1, _⟩ := hcr j dd hj
      rw [Nat.zero_add, cell_of_row w b j cs _ _ hb]
      simp [e1]
    · obtain ⟨u, e1, e2⟩ := hcr j dd hj
      simpa [e1] using e2.step (stp_z Z key.2.1)
    · show (M.h ++ [_])[al.length]? = _
      rw [hlen]
      simp
theorem eo_tag {l : List Oper} {te : TypeId} {sz id bg : Nat} {xs : List α} {al : List Bool} (t : Nat) (hp2 : List Ob) (ht : fr.get t = some (.sl id xs.length)) (ho : hp[id]? = some (.row te sz xs.length (xs.flatMap enc))) (hbag : hp[bg]? = some (.bag al)) (h2 : (hp.set id .dead).set bg (.bag (al ++ [true])) = hp2) (hF : F ≤ hp.length)
    (k : EO P F N ops l Q ((t, .d (Slt te sz enc (al.length + 2, xs))) :: fr) hp2) : EO P F N ops l Q fr hp := by
  subst h2
  exact eo_ghost hF (gh_tag t ht ho hbag) k

/-- A new local, its slices with tags. -/
theorem ops_allocT (hΓ : TOK P Γ) (ks : List Nat) (gs : List G) {t : TypeId} {i : TI} (hi : Γ t = some i) (h1 : (i.zero.cells.toList.all (·.oneCell')) = true) (hle : G.LeAll (zeroX ks i) gs) : OpS P N ⟨some d, .alloc t, ty, pos, after, gd⟩ fr hp (.ptr hp.length 0) (hp ++ [.box t gs]) := fun Z w M a hr => by
  obtain ⟨_, inf, e1, e2, e3, e4⟩ := hΓ t i hi
  obtain ⟨hl, hg⟩ := hle.spec
  have hc : i.zero.cells.size = gs.length ∧ CellsR w (ownZ Z hp M) M i.zero.cells gs := by
    refine ⟨by rw [← hl]; simp [zeroX], fun j g hj => ?_⟩
    obtain ⟨g0, h0, hle0⟩ := hg j g hj
    obtain ⟨c, k1, k2, k3⟩ := zeroX_ok h1 j g0 h0
    exact ⟨c, k1, k2, hle0 _ _ _ _ k3⟩
  obtain ⟨r1, r2, r3⟩ := box_push (t := t) hr.heap hc
  refine ⟨.pointer (some ⟨w.heap.size, 0, none⟩), _, _, ?_, r1, .ptr (c := 0) ?_, r2, r3⟩
  · simp [execOp, Instr.alloc, zeroValue, typeInfo, e1, e4, newVar, newRow]
  · rw [← hr.heap.len]; simp
theorem j_hp {c : Code} (hp2 : List Ob) (h : hp = hp2) (k : St.holds P F N Q (.code c ks) fr hp2) : St.holds P F N Q (.code c ks) fr hp := by subst h; exact k
theorem cv_hp {M : Fr → List Ob → Prop} (hp2 : List Ob) (h : hp = hp2) (k : Cv F N M fr hp2) : Cv F N M fr hp := by subst h; exact k

/-! ### Locals that are laid in whatever order -/
theorem zeroX_cells {ks : List Nat} {i : TI} {gs : List G} (hz : (i.zero.cells.toList.all (·.oneCell')) = true) (hle : G.LeAll (zeroX ks i) gs) : i.zero.cells.size = gs.length ∧ ∀ w O M, CellsR w O M i.zero.cells gs := by
  obtain ⟨hl, hg⟩ := hle.spec
  refine ⟨by rw [← hl]; simp [zeroX], fun w O M j g hj => ?_⟩
  obtain ⟨g0, h0, hle0⟩ := hg j g hj
  simp only [zeroX, List.getElem?_mapIdx] at h0
  obtain ⟨c, hc, rfl⟩ := Option.map_eq_some_iff.1 h0
  have h1 := List.all_eq_true.1 hz c (List.mem_of_getElem? hc)
  refine ⟨c, by simpa using hc, h1, hle0 _ _ _ _ (.d ?_)⟩
  cases ks.contains j with
  | true => exact .v c h1
  | false => exact vd_nilD c h1
theorem lays_alloc (hΓ : TOK P Γ) {t : TypeId} {i : TI} (hi : Γ t = some i) {o : Oper} (ho : o.op = .alloc t) : Lays P o t i.zero.cells := fun ev w => by
  obtain ⟨_, inf, e1, e2, e3, e4⟩ := hΓ t i hi
  simp [execOp, ho, Instr.alloc, zeroValue, typeInfo, e1, e4, newVar, newRow]
section
variable {hpL : List Ob} {ll hl bl : List Nat} {k : Nat} {QF : Fr → List Ob → Prop}
theorem ge_new (hΓ : TOK P Γ) (j : Nat) {t : TypeId} {i : TI} (hi : Γ t = some i) (hk : Nat.blt k 1000 = true) (hn : inL bl (k + 1000 * (j + 1)) = true) (hd : Nat.blt d N = true) (kk : GE P N hpL ll hl bl ops QF (k + 1) rest ((d, .junk) :: fr) hp) : GE P N hpL ll hl bl ops QF k (⟨some d, .alloc t, ty, pos, after, none⟩ :: rest) fr hp := by
  refine ⟨some d, .junk, hp, .inr (.inl ⟨⟨j, d, t, i.zero.cells, ⟨nblt.1 hk, hn⟩, rfl, nblt.1 hd, rfl, lays_alloc hΓ hi rfl⟩, rfl, rfl, rfl⟩), ?_⟩
  unfold GE at kk
  rw [Fr.get_cons] at kk
  exact kk
theorem ge_fill (hΓ : TOK P Γ) (i0 d0 : Nat) (ks : List Nat) (gs : List G) (hp' : List Ob) {o0 : Oper} {t0 : TypeId} {i : TI} (ho0 : ops[i0]? = some o0) (hop : o0.op = .alloc t0) (hod : o0.dst = some d0) (hi : Γ t0 = some i) (hz : (i.zero.cells.toList.all (·.oneCell')) = true) (hle : G.LeAll (zeroX ks i) gs)
    (hk : Nat.blt i0 1000 = true) (hn : inL bl (i0 + 1000 * (k + 1)) = true) (hh : inL hl k = true) (hlen : Nat.ble (hp ++ [Ob.box t0 gs]).length hp'.length = true) (hst : inL bl k = false → Stays hpL hp → Stays hpL hp')
    (hq : QtE P N ⟨none, op, ty, pos, after, none⟩ (Fr.only (Oper.looksAt ops ⟨none, op, ty, pos, after, none⟩) ((d0, .ptr hp.length 0) :: fr)) (hp ++ [.box t0 gs]) g hp') (kk : GE P N hpL ll hl bl ops QF (k + 1) rest ((d0, .ptr hp.length 0) :: fr) hp') (hnn : noNew bl k = true := by rfl) :
    GE P N hpL ll hl bl ops QF k (⟨none, op, ty, pos, after, none⟩ :: rest) fr hp := by
  obtain ⟨z1, z2⟩ := zeroX_cells hz hle
  have hlen' := Nat.le_of_ble_eq_true hlen
  refine ⟨some d0, .ptr hp.length 0, hp', .inr (.inr (.inr ⟨hh, ⟨i0, d0, o0, t0, i.zero.cells, gs, g, ⟨nblt.1 hk, hn⟩, ho0, hod, lays_alloc hΓ hi hop, z1, z2, rfl, rfl, rfl, ?_, ⟨(fun d' h => by cases h), .inl rfl, hlen', _, fun t g' h => ?_, hq⟩⟩, noNew_ok hnn, hst⟩)), ?_⟩
  · simp at hlen'; omega
  · have := Fr.only_get h
    rw [Fr.get_cons] at this
    exact this
  · unfold GE at kk
    rw [Fr.get_cons] at kk
    exact kk
end

/-- A law that gives out tags: outside, nothing is seen of them. -/
theorem Pure.of_bag {f : FuncId} {gs : List G} {r : G} {al : List Bool} (hb : gs.all G.plain = true) (hp : r.plain = true) (h : EC P f gs [.bag []] fun g hp' => g = r ∧ hp' = [.bag al]) : Pure P f gs r := by
  intro Z w M vs hr hsz hvs
  have hO : ∀ b, own [.bag []] ⟨[none], []⟩ b → False := by
    rintro b (⟨i, o, c, h1, h2, h3⟩ | ⟨_, x, hx, _⟩)
    · cases i with
      | zero => simp at h3
      | succ i => simp at h1
    · simp at hx
  have hr0 : RelH Z [.bag []] ⟨[none], []⟩ w := by
    refine ⟨rfl, fun i o m h1 h2 => ?_, fun b hb => (hO b hb).elim, hr.old, hr.amb, fun i j oi oj b c c' hi hj li lj mi mj => ?_, ⟨fun x hx => by simp at hx, fun i j a a' hi hj => ?_⟩⟩
    · cases i with
      | zero => simp at h1 h2; subst h1; subst h2; exact ⟨rfl, fun t x h => by simp at h, fun t t' x x' h => by simp at h⟩
      | succ i => simp at h1
    · cases i with
      | zero => simp at mi
      | succ i => simp at hi
    · cases i with
      | zero => cases j with
        | zero => rfl
        | succ j => simp at hj
      | succ i => simp at hi
  refine (h Z w ⟨[none], []⟩ vs hr0 hsz fun j g v hg hv => (hvs j g v hg hv).plain (List.all_eq_true.1 hb g (List.mem_of_getElem? hg))).mono ?_
  rintro e w' ⟨v, g, hp', M', rfl, ⟨rfl, rfl⟩, h1, h2, h3, h4⟩
  have hkeep : ∀ b, b < w.heap.size → w'.heap[b]? = w.heap[b]? := fun b hb => h3.keep b hb fun h => hO b h
  have hst : Stp w (own [] M) w' (own [] M) := .mk' h3.size (fun b hb _ => hkeep b hb) (fun _ _ h => h) h3.os h3.tape h3.output rfl (fun g => g) fun x hx => hkeep _ (hr.bags.tgs x hx).1
  exact ⟨v, g, [], M, rfl, ⟨rfl, rfl⟩, ⟨hr.len, fun i o m h => by simp at h, fun b h => absurd h own_nil, fun b hb => Nat.lt_of_lt_of_le (hr.old b hb) h3.size, h1.amb, fun i j oi oj b c c' h => by simp at h, hr.bags.mono rfl h3.size (fun _ _ h => h) (fun _ _ h => h)⟩, h2.plain hp, hst, ⟨Nat.le_of_eq hr.len.symm, fun _ _ => rfl⟩⟩
end
end Go.Gk
