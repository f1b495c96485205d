/-
  THE GHOST LOGIC, PART 34: rows in the fields of structs.
  THE GHOST LOGIC, PART 35: arrays; bytes that become strings.
  THE GHOST LOGIC, PART 36: maps.
  THE GHOST LOGIC, PART 37: slices that are known to be full.
  THE GHOST LOGIC, PART 38: loops over maps, in whatever order.
  THE GHOST LOGIC, PART 39: a string's bytes appended to a row.
-/
import Derived.Test.YtfnjahjbpaoepaaGreatDoorGk33
import Derived.MapKept
import Derived.Maps.RangeRun
import Derived.Sort.Grow
set_option linter.unusedVariables false
set_option linter.unusedSimpArgs false
set_option linter.unusedSectionVars false
namespace Go.Gk
/-- A type's zero; the cells ks are told as they are. -/
def zeroX (ks : List Nat) (i : TI) : List G := i.zero.cells.toList.mapIdx fun j c => .d (bif ks.contains j then .v c else nilD c)
/-- What names the row is forgotten. -/
def G.forg (id : Nat) (g : G) : G := bif g.has id then .junk else g
def Ob.forg (id : Nat) : Ob → Ob
  | .box t gs => .box t (gs.map (G.forg id))
  | o => o
section
variable {P : Program} {Γ : TypeId → Option TI} {F N : Nat} {Q : GPost} {fr fr' : Fr} {hp hp' : List Ob} {ks : List Kt}
variable {α : Type} {enc : α → List D} {ops : Array Oper} {rest : List Oper} {g : G}
variable {d : Tmp} {op : Op} {ty : TypeId} {pos : String} {after : Array Edge} {gd' : Option (Nat × Bool)}
theorem zeroX_ok {Z : Env} {w : World} {M : Mp} {ks : List Nat} {i : TI} (hz : (i.zero.cells.toList.all (·.oneCell')) = true) (j : Nat) (g : G) (hj : (zeroX ks i)[j]? = some g) :
    ∃ c : Value, i.zero.cells[j]? = some c ∧ c.oneCell' = true ∧ VR w (ownZ Z hp M) M g c := by
  simp only [zeroX, List.getElem?_mapIdx] at hj
  obtain ⟨c, hc, rfl⟩ := Option.map_eq_some_iff.1 hj
  have h1 := List.all_eq_true.1 hz c (List.mem_of_getElem? hc)
  refine ⟨c, by simpa using hc, h1, .d ?_⟩
  cases ks.contains j with
  | true => exact .v c h1
  | false => exact vd_nilD c h1
/-- A STRUCT LITERAL, some unset fields told as they are. -/
theorem op_buildX (hΓ : TOK P Γ) (ks : List Nat) {t : TypeId} {fs : Array Field} {i1 : TI} {parts : Array (Nat × Operand)} {pg : List (Nat × G)} {gs : List G} (h1 : Γ t = some i1) (h1' : i1.desc = .struct fs) (hfs : (fs.toList.all fun f => (Γ f.type).isSome) = true)
    (hz : (i1.zero.cells.toList.all (·.oneCell')) = true) (hp' : evParts fr parts.toList = some pg) (hf : fillG (placesG Γ fs) (zeroX ks i1) pg = some gs)
    : OpP P N ⟨some d, .build t parts, ty, pos, after, gd'⟩ fr hp (.agg gs) := by
  intro Z w M a hr
  obtain ⟨u1, inf, e1, e2, e3, e4⟩ := hΓ t _ h1
  rw [h1'] at u1
  obtain ⟨r, p1, p2⟩ := places_run (P := P) (w := w) hΓ fs.toList fun f hf => List.all_eq_true.1 hfs f hf
  have hpl : (fun i => (r.toArray)[i]?) = placesG Γ fs := by
    funext i
    rw [List.getElem?_toArray, p2 i]
    simp [placesG]
  have hpl' : (fun i => r[i]?) = placesG Γ fs := by rw [← hpl]; funext i; simp
  obtain ⟨cs', r1, r2, r3, r4⟩ := fill_ok (place := placesG Γ fs) (cs := i1.zero.cells) hr parts.toList hp' hf (by simp [zeroX]) (fun j g hj => zeroX_ok hz j g hj)
  refine ⟨.agg cs', ?_, .agg r2 fun j g v hg hv => ?_⟩
  · have hm : (fs.mapM fun f => (Prod.mk f.offset <$> sizeOf f.type : Sem (Nat × Nat))).run P w = .ok r.toArray w := by
      rw [Array.mapM_eq_mapM_toList]
      simp [p1]
    simp [execOp, Instr.build, zeroValue, typeInfo, e1, e4, run_underlying u1, hm]
    rw [← hpl'] at r1
    simp [r1]
  · obtain ⟨v', f1, f2, f3⟩ := r4 j g hg
    rw [hv] at f1
    cases f1
    exact f3
/-- A heap with one more row, a nil slice's. -/
theorem heap_nilRow {Z : Env} {w : World} {M : Mp} (te : TypeId) (sz : Nat) (hr : RelH Z hp M w) :
    RelH Z (hp ++ [.row te sz 0 []]) (M.app [none]) w ∧ Stp w (own hp M) w (own (hp ++ [.row te sz 0 []]) (M.app [none])) ∧ Agr hp.length M (M.app [none]) := by
  have hM : ∀ i, i < M.l.length → (M.app [none]).l[i]? = M.l[i]? := fun i hi => List.getElem?_append_left hi
  have hob : ∀ b, obOwn (hp ++ [.row te sz 0 []]) (M.app [none]) b → obOwn hp M b := by
    rintro b ⟨i, o, c, h1, h2, h3⟩
    rcases getq_snoc h3 with ⟨hi, h4⟩ | ⟨hi, h4⟩
    · rw [List.getElem?_append_left (by rw [← hr.len]; exact hi)] at h1
      exact ⟨i, o, c, h1, h2, h4⟩
    · cases h4
  have hown : ∀ b, own (hp ++ [.row te sz 0 []]) (M.app [none]) b → own hp M b := fun b h => own_imp h (hob b) (fun g => g.of (bag_snoc rfl)) rfl
  have hst : Stp w (own hp M) w (own (hp ++ [.row te sz 0 []]) (M.app [none])) := .still (fun b _ h => hown b h) rfl fun g => g.of (bag_snoc rfl)
  refine ⟨⟨by simp [hr.len], fun i o m h1 h2 => ?_, fun b hb hz => hr.apart b (hown b hb) hz, hr.old, hr.amb, fun i j oi oj b c c' hi hj li lj mi mj => ?_, hr.bags.mono rfl (Nat.le_refl _) (fun b _ => hob b) (bag_snoc rfl)⟩, hst, ⟨by simp [hr.len], fun i hi => hM i (by rw [hr.len]; exact hi)⟩⟩
  · rcases getq_snoc h1 with ⟨hi, h3⟩ | ⟨hi, rfl⟩
    · rw [hM i (by rw [hr.len]; exact hi)] at h2
      have := hr.obj i o m h3 h2
      exact this.move (k := M.l.length) (stp_z Z hst) hM this.bel (fun _ _ _ _ => rfl) (fun _ _ _ _ => ⟨rfl, fun _ _ _ => rfl⟩)
    · subst hi
      rw [← hr.len] at h2
      rcases getq_snoc h2 with ⟨hi, _⟩ | ⟨_, h⟩
      · omega
      · subst h; exact ⟨rfl, rfl⟩
  · rcases getq_snoc mi with ⟨hi1, hi2⟩ | ⟨_, hi2⟩
    · rcases getq_snoc mj with ⟨hj1, hj2⟩ | ⟨_, hj2⟩
      · rw [List.getElem?_append_left (by rw [← hr.len]; exact hi1)] at hi
        rw [List.getElem?_append_left (by rw [← hr.len]; exact hj1)] at hj
        exact hr.inj i j oi oj b c c' hi hj li lj hi2 hj2
      · cases hj2
    · cases hi2
/-- A nil field of what an operation yields is made a row of one's own. -/
theorem ops_nilAt (te : TypeId) (sz k : Nat) {o : Oper} {gs : List G} (h : OpS P N o fr hp (.agg gs) hp') (hk : gs[k]? = some (.d (.v (.slice none 0 0)))) :
    OpS P N o fr hp (.agg (gs.set k (.sl hp'.length 0))) (hp' ++ [.row te sz 0 []]) := by
  intro Z w M a hr
  obtain ⟨v, w', M', hrun, h1, h2, h3, h4⟩ := h Z w M a hr
  obtain ⟨k1, k2, k3⟩ := heap_nilRow te sz h1
  have hM : ∀ i, i < M'.l.length → (M'.app [none]).l[i]? = M'.l[i]? := fun i hi => List.getElem?_append_left hi
  have hle : hp.length ≤ hp'.length := by rw [← h1.len]; exact h4.le
  refine ⟨v, w', M'.app [none], hrun, k1, ?_, h3.trans k2, h4.trans k3 hle⟩
  cases h2 with
  | agg hl ih =>
    refine .agg (by simpa using hl) fun j g v hg hv => ?_
    by_cases hjk : k = j
    · subst hjk
      have hlt : k < gs.length := (List.getElem?_eq_some_iff.1 hk).1
      rw [List.getElem?_set_self hlt] at hg
      cases hg
      have := ih k _ v hk hv
      rw [vr_v this]
      exact .slnil (by rw [← h1.len]; simp)
    · rw [List.getElem?_set_ne hjk] at hg
      exact (ih j g v hg hv).step (stp_z Z k2) hM
theorem VR.forg {w : World} {O : Ow} {M : Mp} (id : Nat) {g : G} {v : Value} (h : VR w O M g v) : VR w O M (g.forg id) v := by
  unfold G.forg
  cases g.has id with
  | true => exact .junk v
  | false => exact h
theorem heap_forg {Z : Env} {w : World} {M : Mp} (id : Nat) (hr : RelH Z hp M w) :
    RelH Z (hp.map (Ob.forg id)) M w ∧ Stp w (own hp M) w (own (hp.map (Ob.forg id)) M) := by
  have lv : ∀ o : Ob, (o.forg id).live = o.live := fun o => by cases o <;> rfl
  have hold : ∀ (i : Nat) (o : Ob), (hp.map (Ob.forg id))[i]? = some o → ∃ o0, hp[i]? = some o0 ∧ o = o0.forg id := fun i o h => by
    rw [List.getElem?_map] at h
    obtain ⟨o0, h1, h2⟩ := Option.map_eq_some_iff.1 h
    exact ⟨o0, h1, h2.symm⟩
  have hobo : ∀ b, obOwn (hp.map (Ob.forg id)) M b → obOwn hp M b := by
    rintro b ⟨i, o, c, h1, h2, h3⟩
    obtain ⟨o0, e1, rfl⟩ := hold i o h1
    exact ⟨i, o0, c, e1, by rw [← lv o0]; exact h2, h3⟩
  have hbg : ∀ (i : Nat) (al : List Bool) (ar : List Ar) (lt : List (Nat × Nat)), (hp.map (Ob.forg id))[i]? = some (.bag al ar lt) → hp[i]? = some (.bag al ar lt) := bag_map fun o al ar lt h => by cases o <;> first | exact h | cases h
  have hown : ∀ b, own (hp.map (Ob.forg id)) M b → own hp M b := fun b h => own_imp h (hobo b) (fun g => g.of hbg) rfl
  have hst : Stp w (own hp M) w (own (hp.map (Ob.forg id)) M) := .still (fun b _ h => hown b h) rfl fun g => g.of hbg
  refine ⟨⟨by simp [hr.len], fun i o m h1 h2 => ?_, fun b hb hz => hr.apart b (hown b hb) hz, hr.old, hr.amb, fun i j oi oj b c c' hi hj li lj mi mj => ?_, hr.bags.mono rfl (Nat.le_refl _) (fun b _ => hobo b) hbg⟩, hst⟩
  · obtain ⟨o0, e1, rfl⟩ := hold i o h1
    have hob := hr.obj i o0 m e1 h2
    have hob' : ObR w (ownZ Z (hp.map (Ob.forg id)) M) M o0 m := hob.move (k := M.l.length) (stp_z Z hst) (fun _ _ => rfl) hob.bel (fun _ _ _ _ => rfl) (fun _ _ _ _ => ⟨rfl, fun _ _ _ => rfl⟩)
    cases o0 with
    | box tb gs =>
      match m, hob' with
      | some (b, c), ⟨cs, e1, e2, hc⟩ =>
        refine ⟨cs, e1, by simpa using e2, fun j g hg => ?_⟩
        rw [List.getElem?_map] at hg
        obtain ⟨g0, hg0, rfl⟩ := Option.map_eq_some_iff.1 hg
        obtain ⟨v, f1, f2, f3⟩ := hc j g0 hg0
        exact ⟨v, f1, f2, f3.forg id⟩
    | _ => exact hob'
  · obtain ⟨o1, e1, rfl⟩ := hold i oi hi
    obtain ⟨o2, e2, rfl⟩ := hold j oj hj
    exact hr.inj i j o1 o2 b c c' e1 e2 (by rw [← lv o1]; exact li) (by rw [← lv o2]; exact lj) mi mj
theorem gh_forg (id : Nat) : ∀ Z w M a, Rel Z hp M w fr a N → ∃ M', Rel Z (hp.map (Ob.forg id)) M' w fr a N ∧ Stp w (own hp M) w (own (hp.map (Ob.forg id)) M') ∧ Agr hp.length M M' := by
  intro Z w M a hr
  obtain ⟨h1, h2⟩ := heap_forg id hr.heap
  exact ⟨M, ⟨h1, fun t g h => let ⟨v, e1, e2⟩ := hr.fr t g h; ⟨v, e1, e2.step (stp_z Z h2) (fun _ _ => rfl)⟩, hr.size, hr.defers⟩, h2, ⟨Nat.le_of_eq hr.heap.len.symm, fun _ _ => rfl⟩⟩
/-- The boxes forget a row. -/
theorem eo_forg {l : List Oper} (id : Nat) (hp2 : List Ob) (hhp : hp.map (Ob.forg id) = hp2) (hF : F ≤ hp.length) (k : EO P F N ops l Q fr hp2) : EO P F N ops l Q fr hp := by
  subst hhp
  exact eo_ghost hF (gh_forg id) k
/-- An operation behind a step that forgets. -/
theorem ops_forg {o : Oper} (id : Nat) (h : OpS P N o fr (hp.map (Ob.forg id)) g hp') : OpS P N o fr hp g hp' := by
  intro Z w M a hr
  obtain ⟨M1, h1, h2, h3⟩ := gh_forg id Z w M a hr
  obtain ⟨v, w', M', hrun, k1, k2, k3, k4⟩ := h Z w M1 a h1
  exact ⟨v, w', M', hrun, k1, k2, h2.trans k3, h3.trans k4 (by simp)⟩
end
end Go.Gk
namespace Go.Gk
section
variable {P : Program} {Γ : TypeId → Option TI} {F N : Nat} {Q : GPost} {fr fr' : Fr} {hp hp' : List Ob} {ks : List Kt}
variable {α : Type} {enc : α → List D} {ops : Array Oper} {rest : List Oper} {g : G}
variable {d : Tmp} {op : Op} {ty : TypeId} {pos : String} {after : Array Edge} {gd : Option (Nat × Bool)}
end
end Go.Gk
namespace Go.Gk
theorem set_at {α : Type} {l : List α} {j : Nat} {x y : α} (h : l[j]? = some x) : (l.set j y)[j]? = some y := by
  rw [List.getElem?_set_self (List.getElem?_eq_some_iff.1 h).1]
/-! ### Maps as lists -/
def mGet {K V : Type} [BEq K] (m : List (K × V)) (k : K) : Option V := (m.find? fun e => k == e.1).map (·.2)
class KLt (K : Type) where
  lt : K → K → Bool
instance : KLt (List UInt8) := ⟨Op.bytesLess⟩
instance : KLt Int := ⟨fun a b => decide (a < b)⟩
instance (priority := low) {K : Type} : KLt K := ⟨fun _ _ => false⟩
/-- A key that is new goes to its place. -/
def mIns {K V : Type} [KLt K] (k : K) (v : V) : List (K × V) → List (K × V)
  | [] => [(k, v)]
  | e :: m => bif KLt.lt k e.1 then (k, v) :: e :: m else e :: mIns k v m
def mSet {K V : Type} [BEq K] [KLt K] (m : List (K × V)) (k : K) (v : V) : List (K × V) := match m.findIdx? (fun e => k == e.1) with
  | some i => m.set i (k, v)
  | none => mIns k v m
abbrev mObS {K V : Type} (kv : K → Value) (agg : Bool) (enc : V → List D) (m : List (K × V)) (st : Option (List (Value × List D) × List Nat × Nat)) : Ob := .map agg (m.map fun e => (kv e.1, enc e.2)) st
abbrev mOb {K V : Type} (kv : K → Value) (agg : Bool) (enc : V → List D) (m : List (K × V)) : Ob := mObS kv agg enc m none
abbrev kS (s : List UInt8) : Value := .string ⟨s.toArray⟩
abbrev kI (k : IntKind) (n : Int) : Value := .int k n
/-- Keys that are told apart at once. -/
structure KeyOk {K : Type} [BEq K] (d : TypeDesc) (kv : K → Value) : Prop where
  same : ∀ a b : K, Instr.sameNow d (kv a) (kv b) = some (a == b)
  bits : ∀ a b : K, (a == b) = true → Instr.sameBits 10000 (kv b) (kv a) = true
  key : ∀ a : K, MapKept.IsKey d (kv a)
  eq : ∀ a b : K, (a == b) = true → a = b
  refl : ∀ a : K, (a == a) = true
theorem findNow_ok {K V : Type} [BEq K] {d : TypeDesc} {kv : K → Value} (hK : KeyOk d kv) (k : K) : ∀ (l : List MapEntry) (m : List (K × V)) (i : Nat), l.length = m.length → (∀ (j : Nat) (e : MapEntry) (x : K × V), l[j]? = some e → m[j]? = some x → e.key = kv x.1) →
    Instr.findNow d (kv k) l i = some ((m.findIdx? fun e => k == e.1).bind fun j => (l[j]?).map fun e => (i + j, e.val))
  | [], [], i, _, _ => rfl
  | e :: l, x :: m, i, hl, hk => by
    have ih := findNow_ok hK k l m (i + 1) (by simpa using hl) fun j e x he hx => hk (j + 1) e x (by simpa using he) (by simpa using hx)
    have h0 := hk 0 e x (by simp) (by simp)
    simp only [Instr.findNow, h0, hK.same, List.findIdx?_cons]
    cases hb : (k == x.1) with
    | true => simp
    | false =>
      simp only [ih]
      cases m.findIdx? fun e => k == e.1 with
      | none => rfl
      | some j => simp [Nat.add_assoc, Nat.add_comm 1 j]
  | [], _ :: _, _, h, _ => by simp at h
  | _ :: _, [], _, h, _ => by simp at h
/-- A value's ghost, where it is data. -/
def zD (v : Value) : List D := v.cells.toList.map nilD
def isAggV : Value → Bool
  | .agg _ => true
  | _ => false
def dG (agg : Bool) (ds : List D) : Option G := match agg with
  | true => some (.agg (ds.map G.d))
  | false => match ds with
    | [d] => some (.d d)
    | _ => none
section
variable {P : Program} {Γ : TypeId → Option TI} {F N : Nat} {Q : GPost} {fr fr' : Fr} {hp hp' : List Ob} {ks : List Kt}
variable {ops : Array Oper} {rest : List Oper} {g : G}
variable {d : Tmp} {op : Op} {ty : TypeId} {pos : String} {after : Array Edge} {gd : Option (Nat × Bool)}
variable {K V : Type} [BEq K] [KLt K] {kv : K → Value} {agg : Bool} {enc : V → List D}
/-- No key twice. -/
def Apart (kv : K → Value) (m : List (K × V)) : Prop := m.Pairwise fun x y => kv x.1 ≠ kv y.1
theorem Apart.one : ∀ {m : List (K × V)}, Apart kv m → ∀ {x y : K × V}, x ∈ m → y ∈ m → kv x.1 = kv y.1 → x = y
  | z :: m, h, x, y, hx, hy, e => by
    have h1 := List.pairwise_cons.1 h
    rcases List.mem_cons.1 hx with hx1 | hx1
    · rcases List.mem_cons.1 hy with hy1 | hy1
      · rw [hx1, hy1]
      · subst hx1; exact absurd e (h1.1 y hy1)
    · rcases List.mem_cons.1 hy with hy1 | hy1
      · subst hy1; exact absurd e.symm (h1.1 x hx1)
      · exact Apart.one h1.2 hx1 hy1 e
/-- What is known of a map's block: the entries as they lie there. -/
structure MapAt (w : World) (O : Ow) (kv : K → Value) (agg : Bool) (enc : V → List D) (b : Nat) (m m' : List (K × V)) (st : Option (List (Value × List D) × List Nat × Nat)) (ms : Array MapEntry) (cl : Nat) : Prop where
  perm : m'.Perm m
  apart : Apart kv m'
  raw : ∀ raw, st = some raw → raw = (m'.map (fun e => (kv e.1, enc e.2)), ms.toList.map (·.born), cl)
  heap : w.heap[b]? = some (.map ms cl)
  size : ms.size = m'.length
  born : Born ms cl
  get : ∀ (j : Nat) (x : K × V), m'[j]? = some x → ∃ e : MapEntry, ms[j]? = some e ∧ e.key = kv x.1 ∧ DV w O agg (enc x.2) e.val
theorem MapAt.find {w : World} {O : Ow} {b : Nat} {m m' : List (K × V)} {st} {ms : Array MapEntry} {cl : Nat} (h : MapAt w O kv agg enc b m m' st ms cl) {dd : TypeDesc} (hK : KeyOk dd kv) (k : K) :
    Instr.findNow dd (kv k) ms.toList 0 = some ((m'.findIdx? fun e => k == e.1).bind fun j => (ms[j]?).map fun e => (j, e.val)) := by
  have := findNow_ok hK k ms.toList m' 0 (by simpa using h.size) (fun j e x he hj => by
    obtain ⟨e', e1, e2, _⟩ := h.get j x hj
    have : e = e' := by
      have he' : ms[j]? = some e := by simpa using he
      rw [e1] at he'; exact (Option.some.inj he').symm
    rw [this]; exact e2)
  rw [this]
  congr 2
  funext j
  simp
/-- A condition that is a constant. -/
theorem j_condK {b : Bool} {x y : Code} (h : St.holds P F N Q (.code (bif b then x else y) ks) fr hp) : St.holds P F N Q (.code (.cond (.const (.bool b)) x y) ks) fr hp := by
  intro Z w0 O0 M0 w M a hs ha hr
  have hev : a.eval (.const (.bool b)) = .bool b := rfl
  cases b with
  | true => exact wp_cond_split hev (fun _ => h Z w0 O0 M0 w M a hs ha hr) (fun e => by cases e)
  | false => exact wp_cond_split hev (fun e => by cases e) (fun _ => h Z w0 O0 M0 w M a hs ha hr)
/-- A number that becomes a string. -/
def runeS (n : Int) : List UInt8 := (Utf8.encode n).data.toList
end
end Go.Gk
namespace Go.Gk
def Slf {α : Type} (enc : α → List D) (l : List α) : D := .rf l.length (l.flatMap enc)
/-- The one says less than the other. -/
inductive D.Le : D → D → Prop
  | refl (d : D) : D.Le d d
  | rf (n : Nat) (xs : List D) : D.Le (.rf n xs) (.ro n xs)
  | rt (te : TypeId) (sz t n : Nat) (xs : List D) : D.Le (.rt te sz t n xs) (.ro n xs)
def Ds.Le : List D → List D → Prop
  | [], [] => True
  | d :: r, d' :: r' => D.Le d d' ∧ Ds.Le r r'
  | _, _ => False
theorem Ds.Le.get : ∀ {l l' : List D}, Ds.Le l l' → l.length = l'.length ∧ ∀ (j : Nat) (d' : D), l'[j]? = some d' → ∃ d, l[j]? = some d ∧ D.Le d d'
  | [], [], _ => ⟨rfl, fun j d' h => by simp at h⟩
  | d :: r, d' :: r', h => by
    obtain ⟨h1, h2⟩ := Ds.Le.get h.2
    refine ⟨by simp [h1], fun j x hx => ?_⟩
    cases j with
    | zero => simp at hx; subst hx; exact ⟨d, rfl, h.1⟩
    | succ j => simpa using h2 j x (by simpa using hx)
  | [], _ :: _, h => h.elim
  | _ :: _, [], h => h.elim
theorem Ds.Le.app : ∀ {a a' b b' : List D}, Ds.Le a a' → Ds.Le b b' → Ds.Le (a ++ b) (a' ++ b')
  | [], [], _, _, _, h => h
  | _ :: _, _ :: _, _, _, h1, h2 => ⟨h1.1, Ds.Le.app h1.2 h2⟩
  | [], _ :: _, _, _, h, _ => h.elim
  | _ :: _, [], _, _, h, _ => h.elim
theorem Ds.Le.flat {α : Type} {e e' : α → List D} (h : ∀ x, Ds.Le (e x) (e' x)) : ∀ l : List α, Ds.Le (l.flatMap e) (l.flatMap e')
  | [] => trivial
  | x :: l => by simp only [List.flatMap_cons]; exact (h x).app (Ds.Le.flat h l)
section
variable {P : Program} {Γ : TypeId → Option TI} {F N : Nat} {Q : GPost} {fr fr' : Fr} {hp hp' : List Ob} {ks : List Kt}
variable {α : Type} {enc enc' : α → List D} {ops : Array Oper} {rest : List Oper} {g : G}
variable {d : Tmp} {op : Op} {ty : TypeId} {pos : String} {after : Array Edge} {gd : Option (Nat × Bool)}
/-- A part of an element of a row, set anew. -/
theorem opu_storeRowZ (hΓ : TOK P Γ) {t tb : TypeId} {x y : Operand} {i : TI} {id off sz : Nat} {l : List α} {z z' : α} {nd : List D} {new : List G} {hp2 : List Ob} (j fo : Nat) (hz : l[j]? = some z) (hi : Γ t = some i) (hx : fr.ev x = some (.ptr id off)) (hoff : off = j * sz + fo) (ho : hp[id]? = some (.row tb sz l.length (l.flatMap enc)))
    (henc : ∀ y, (enc y).length = sz) (hy : fr.ev y = some g) (hg : cellsG g = some new) (hnd : toDs new = some nd) (he : enc z' = setAt (enc z) fo nd)
    (hsz : Nat.beq new.length i.size = true) (hfit : Nat.ble (fo + nd.length) sz = true) (hhp : hp.set id (.row tb sz (l.set j z').length ((l.set j z').flatMap enc)) = hp2) : OpU P N ⟨none, .store t x y, ty, pos, after, gd⟩ fr hp hp2 := by
  subst hhp
  have hlt := (List.getElem?_eq_some_iff.1 hz).1
  have hf := Nat.le_of_ble_eq_true hfit
  have hfl := flat_len henc l
  have hle : (j + 1) * sz ≤ l.length * sz := Nat.mul_le_mul_right _ hlt
  rw [Nat.add_mul] at hle
  have := opu_storeRow (P := P) (N := N) (ty := ty) (pos := pos) (after := after) (gd' := gd) hΓ hi hx ho hy hg hnd hsz (by rw [hfl, hoff]; omega)
  rw [flat_set henc hz hf he, List.length_set, ← hoff]
  exact this
end
end Go.Gk
namespace Go.Gk
/-! ### The models -/
def rangeL {α σ : Type} (f : α → σ → Option σ) : List α → σ → Option σ
  | [], s => some s
  | x :: l, s => match f x s with
    | some s' => rangeL f l s'
    | none => none
/-- What a loop over a map gives, if all orders give the same. -/
noncomputable def rangeP {α σ : Type} (f : α → σ → Option σ) (m : List α) (s : σ) : Option σ :=
  open Classical in if h : ∃ r, ∀ m' : List α, m'.Perm m → rangeL f m' s = some r then some (Classical.choose h) else none
/-- What is still to come. -/
def remL {α : Type} (l : List (α × Nat)) (seen : List Nat) : List α := (l.filter fun e => !seen.contains e.2).map (·.1)
section
variable {P : Program} {Γ : TypeId → Option TI} {F N : Nat} {Q : GPost} {fr fr' : Fr} {hp hp' : List Ob} {ks : List Kt}
variable {ops : Array Oper} {rest : List Oper} {g : G}
variable {d : Tmp} {op : Op} {ty : TypeId} {pos : String} {after : Array Edge} {gd : Option (Nat × Bool)}
/-- An object is let go. -/
theorem kill_ob {Z : Env} {M : Mp} {w : World} (hr : RelH Z hp M w) (id : Nat) : RelH Z (hp.set id .dead) M w ∧ Stp w (own hp M) w (own (hp.set id .dead) M) := by
  have hcase : ∀ (i : Nat) (q : Ob), (hp.set id .dead)[i]? = some q → (i ≠ id ∧ hp[i]? = some q) ∨ (i = id ∧ q = .dead) := fun i q hq => by
    by_cases hii : i = id
    · subst hii
      have hlt := (List.getElem?_eq_some_iff.1 hq).1
      simp at hlt
      simp [hlt] at hq
      exact .inr ⟨rfl, hq.symm⟩
    · rw [List.getElem?_set_ne (Ne.symm hii)] at hq; exact .inl ⟨hii, hq⟩
  have hobo : ∀ b, obOwn (hp.set id .dead) M b → obOwn hp M b := by
    rintro b ⟨i, q, c, h1, h2, h3⟩
    rcases hcase i q h1 with ⟨_, h4⟩ | ⟨rfl, rfl⟩
    · exact ⟨i, q, c, h4, h2, h3⟩
    · cases h2
  have hown : ∀ b, own (hp.set id .dead) M b → own hp M b := fun b h => own_imp h (hobo b) (fun g => g.of (bag_set rfl)) rfl
  have hst : Stp w (own hp M) w (own (hp.set id .dead) M) := .still (fun b _ h => hown b h) rfl fun g => g.of (bag_set rfl)
  refine ⟨⟨by simp [hr.len], fun i q m h1 h2 => ?_, fun b hb => hr.apart b (hown b hb), hr.old, hr.amb, fun i j oi oj b c c' hi hj li lj mi mj => ?_, hr.bags.mono rfl (Nat.le_refl _) (fun b _ => hobo b) (bag_set rfl)⟩, hst⟩
  · rcases hcase i q h1 with ⟨_, h4⟩ | ⟨rfl, rfl⟩
    · have := hr.obj i q m h4 h2
      exact this.move (k := M.l.length) (stp_z Z hst) (fun _ _ => rfl) this.bel (fun _ _ _ _ => rfl) (fun _ _ _ _ => ⟨rfl, fun _ _ _ => rfl⟩)
    · cases m <;> trivial
  · rcases hcase i oi hi with ⟨_, h4⟩ | ⟨rfl, rfl⟩
    · rcases hcase j oj hj with ⟨_, h5⟩ | ⟨rfl, rfl⟩
      · exact hr.inj i j oi oj b c c' h4 h5 li lj mi mj
      · cases lj
    · cases li
variable {K V : Type} [BEq K] [KLt K] {kv : K → Value} {agg : Bool} {enc : V → List D}
/-- The entries as they lie there, for the loop's time. -/
abbrev rawM (kv : K → Value) (enc : V → List D) (m' : List (K × V)) (bs : List Nat) (cl : Nat) : Option (List (Value × List D) × List Nat × Nat) := some (m'.map (fun e => (kv e.1, enc e.2)), bs, cl)
/-- An object is let go. -/
theorem gh_kill (id : Nat) : ∀ Z w M a, Rel Z hp M w fr a N → ∃ M', Rel Z (hp.set id .dead) M' w fr a N ∧ Stp w (own hp M) w (own (hp.set id .dead) M') ∧ Agr hp.length M M' := fun Z w M a hr =>
  let ⟨h1, h2⟩ := kill_ob hr.heap id
  have hag : Agr hp.length M M := ⟨Nat.le_of_eq hr.heap.len.symm, fun _ _ => rfl⟩
  ⟨M, hr.later h1 h2 hag, h2, hag⟩
theorem cv_kill {M : Fr → List Ob → Prop} (id : Nat) (hp2 : List Ob) (h2 : hp.set id .dead = hp2) (hF : F ≤ hp.length) (k : Cv F N M fr hp2) : Cv F N M fr hp := by
  subst h2
  exact cv_ghost hF (gh_kill id) k
end
end Go.Gk
namespace Go.Gk
def strCells (s : List UInt8) : List Value := s.map fun b => Value.int .u8 b.toNat
section
variable {P : Program} (w : World)
end
def strD (s : List UInt8) : List D := s.map fun b => D.v (.int .u8 b.toNat)
section
variable {P : Program} {Γ : TypeId → Option TI} {F N : Nat} {Q : GPost} {fr fr' : Fr} {hp hp' : List Ob} {ks : List Kt}
variable {α : Type} {enc : α → List D} {ops : Array Oper} {rest : List Oper} {g : G}
variable {d : Tmp} {op : Op} {ty : TypeId} {pos : String} {after : Array Edge} {gd' : Option (Nat × Bool)} {t' : TypeId}
theorem run_ptr_eq {w : World} (t : TypeId) (e : TypeId) (p : Option Addr) (u : P.underlying t = some (.pointer e)) :
    (binOp .eql t (.pointer p) (.pointer none)).run P w = .ok (.bool p.isNone) w ∧ (binOp .neq t (.pointer p) (.pointer none)).run P w = .ok (.bool (!p.isNone)) w := by
  have h : P.underlying t = some (.pointer (P.pointee t)) := by simp [Program.pointee, u]
  exact ⟨run_eql_pointer_nil w t p h, run_neq_pointer_nil w t p h⟩
theorem op_ptrEq (hΓ : TOK P Γ) {t e : TypeId} {i1 : TI} {x y : Operand} {id off : Nat} (h1 : Γ t = some i1) (h1' : i1.desc = .pointer e) (hx : fr.ev x = some (.ptr id off)) (hy : y = .const (.pointer none)) :
    OpP P N ⟨some d, .binOp .eql t x y t', ty, pos, after, gd'⟩ fr hp (B false) ∧ OpP P N ⟨some d, .binOp .neq t x y t', ty, pos, after, gd'⟩ fr hp (B true) := by
  constructor <;> intro Z w M a hr
  all_goals
    obtain ⟨u1, _⟩ := hΓ t _ h1
    rw [h1'] at u1
    have hyv : a.eval y = .pointer none := by subst hy; rfl
    have hvx := hr.ev hx
    generalize hq : a.eval x = vx at hvx
    cases hvx with
    | ptr hM =>
      refine ⟨_, ?_, .d (.v _ rfl)⟩
      first
        | (simp [execOp, hyv, hq, eqGuard, (run_ptr_eq (P := P) (w := w) t e _ u1).1]; done)
        | (simp [execOp, hyv, hq, eqGuard, (run_ptr_eq (P := P) (w := w) t e _ u1).2]; done)
theorem op_nilEq (hΓ : TOK P Γ) {t e : TypeId} {i1 : TI} {x y : Operand} (h1 : Γ t = some i1) (h1' : i1.desc = .pointer e) (hx : fr.ev x = some (.d (.v (.pointer none)))) (hy : y = .const (.pointer none)) :
    OpP P N ⟨some d, .binOp .eql t x y t', ty, pos, after, gd'⟩ fr hp (B true) ∧ OpP P N ⟨some d, .binOp .neq t x y t', ty, pos, after, gd'⟩ fr hp (B false) := by
  constructor <;> intro Z w M a hr
  all_goals
    obtain ⟨u1, _⟩ := hΓ t _ h1
    rw [h1'] at u1
    have hyv : a.eval y = .pointer none := by subst hy; rfl
    have hxv : a.eval x = .pointer none := hr.ev_v hx
    refine ⟨_, ?_, .d (.v _ rfl)⟩
    first
      | (simp [execOp, hyv, hxv, eqGuard, (run_ptr_eq (P := P) (w := w) t e none u1).1]; done)
      | (simp [execOp, hyv, hxv, eqGuard, (run_ptr_eq (P := P) (w := w) t e none u1).2]; done)
/-! ### Names that are let go -/
theorem j_kill {c : Code} (id : Nat) (hp2 : List Ob) (h2 : hp.set id .dead = hp2) (hF : F ≤ hp.length) (k : St.holds P F N Q (.code c ks) fr hp2) : St.holds P F N Q (.code c ks) fr hp := by
  subst h2
  exact ew_ghost (Q := stk P F N Q ks) hF (gh_kill id) k
/-- A function whose end may still give names. -/
theorem ec_enterC {f : FuncId} {fn : Func} {c : Code} {gs : List G} {R : G → List Ob → Prop} (fr0 : Fr) (hf : P.funcs[f]? = some fn) (hb : fn.body = some c)
    (hfr : ∀ t g, fr0.get t = some g → gs[t]? = some g) (hN : gs.length ≤ fn.ntmps)
    (h : HB hp.length hp → EW P hp.length fn.ntmps c (fun e fr hp' => Cv hp.length fn.ntmps (fun fr2 hp2 => Ret P fn hp.length R e fr2 hp2) fr hp') fr0 hp) : EC P f gs hp R :=
  ec_enter fr0 hf hb hfr hN fun hb' => by
    intro Z w0 O0 M0 w M a hs ha hr
    refine wp_mono (h hb' Z w0 O0 M0 w M a hs ha hr) ?_
    rintro e a w' ⟨fr', hp', M', q, r1, r2, r3⟩
    obtain ⟨fr3, hp3, M3, k0, k1, k2, k3⟩ := q Z w' M' a r1
    exact ⟨fr3, hp3, M3, k0, k1, r2.trans k2, k3 M0 r3⟩
end
end Go.Gk
