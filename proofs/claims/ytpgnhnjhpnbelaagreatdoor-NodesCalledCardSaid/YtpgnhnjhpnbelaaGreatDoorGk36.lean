/-
  THE GHOST LOGIC, PART 36: maps.
-/
import Derived.Test.YtpgnhnjhpnbelaaGreatDoorGk35
import Derived.MapKept
set_option linter.unusedVariables false
set_option linter.unusedSimpArgs false
namespace Go.Gk

theorem set_at {α : Type} {l : List α} {j : Nat} {x y : α} (h : l[j]? = some x) : (l.set j y)[j]? = some y := by
  rw [List.getElem?_set_self (List.getElem?_eq_some_iff.1 h).1]

/-! ### Maps as lists -/
def mGet {K V : Type} [BEq K] (m : List (K × V)) (k : K) : Option V := (m.find? fun e => k == e.1).map (·.2)
def mSet {K V : Type} [BEq K] (m : List (K × V)) (k : K) (v : V) : List (K × V) := match m.findIdx? (fun e => k == e.1) with
  | some i => m.set i (k, v)
  | none => m ++ [(k, v)]
abbrev mOb {K V : Type} (kv : K → Value) (agg : Bool) (enc : V → List D) (m : List (K × V)) : Ob := .map agg (m.map fun e => (kv e.1, enc e.2))
abbrev kS (s : List UInt8) : Value := .string ⟨s.toArray⟩
abbrev kI (k : IntKind) (n : Int) : Value := .int k n
/-- Keys that are told apart at once. -/
structure KeyOk {K : Type} [BEq K] (d : TypeDesc) (kv : K → Value) : Prop where
  same : ∀ a b : K, Instr.sameNow d (kv a) (kv b) = some (a == b)
  bits : ∀ a b : K, (a == b) = true → Instr.sameBits 10000 (kv b) (kv a) = true
  key : ∀ a : K, MapKept.IsKey d (kv a)
  eq : ∀ a b : K, (a == b) = true → a = b
theorem key_str : KeyOk (K := List UInt8) .string kS := ⟨fun a b => by
    show some ((⟨a.toArray⟩ : ByteArray) == ⟨b.toArray⟩) = some (a == b)
    refine congrArg some ?_
    show (a.toArray == b.toArray) = (a == b)
    simp, fun a b h => by
    obtain rfl : a = b := by simpa using h
    show ((⟨a.toArray⟩ : ByteArray) == ⟨a.toArray⟩) = true
    show (a.toArray == a.toArray) = true
    simp, fun a => by simp [MapKept.IsKey, kS], fun a b h => by simpa using h⟩
theorem key_int (k : IntKind) : KeyOk (K := Int) (.int k) (kI k) := ⟨fun a b => by simp [Instr.sameNow, kI], fun a b h => by
    obtain rfl : a = b := by simpa using h
    simp [Instr.sameBits, kI], fun a => by simp [MapKept.IsKey, kI], fun a b h => by simpa using h⟩
theorem findNow_ok {K V : Type} [BEq K] {d : TypeDesc} {kv : K → Value} (hK : KeyOk d kv) (k : K) : ∀ (l : List MapEntry) (m : List (K × V)) (i : Nat), l.length = m.length → (∀ (j : Nat) (e : MapEntry) (x : K × V), l[j]? = some e → m[j]? = some x → e.key = kv x.1) →
    Instr.findNow d (kv k) l i = some ((m.findIdx? fun e => k == e.1).bind fun j => (l[j]?).map fun e => (i + j, e.val))
  | [], [], i, _, _ => rfl
  | e :: l, x :: m, i, hl, hk => by
    have ih := findNow_ok hK k l m (i + 1) (by simpa using hl) fun j e x he hx => hk (j + 1) e x (by simpa using he) (by simpa using hx)
    have h0 := hk 0 e x (by simp) (by simp)
    simp only [Instr.findNow, h0, hK.same, List.findIdx?_cons]
    cases hb : (k == x.1) with
    | true => simp
    | false =>
      simp only [ih]
      cases m.findIdx? fun e => k == e.1 with
      | none => rfl
      | some j => simp [Nat.add_assoc, Nat.add_comm 1 j]
  | [], _ :: _, _, h, _ => by simp at h
  | _ :: _, [], _, h, _ => by simp at h

/-- A value's ghost, where it is data. -/
def zD (v : Value) : List D := v.cells.toList.map nilD
def isAggV : Value → Bool
  | .agg _ => true
  | _ => false
def dG (agg : Bool) (ds : List D) : Option G := match agg with
  | true => some (.agg (ds.map G.d))
  | false => match ds with
    | [d] => some (.d d)
    | _ => none
theorem DV.vr {w : World} {O : Nat → Prop} {M : Mp} {agg : Bool} {ds : List D} {v : Value} {g : G} (h : DV w O agg ds v) (hg : dG agg ds = some g) : VR w O M g v := by
  cases agg with
  | true =>
    obtain ⟨cs, rfl, h1, h2⟩ := h
    cases hg
    refine .agg (by simpa using h1) fun j g v hg hv => ?_
    rw [List.getElem?_map] at hg
    obtain ⟨d, hd, rfl⟩ := Option.map_eq_some_iff.1 hg
    exact .d (h2 j d v hd hv)
  | false =>
    obtain ⟨d, rfl, h1⟩ := h
    cases hg
    exact .d h1
theorem VR.dv {w : World} {O : Nat → Prop} {M : Mp} {agg : Bool} {ds : List D} {v : Value} {g : G} (h : VR w O M g v) (hg : dG agg ds = some g) : DV w O agg ds v := by
  cases agg with
  | true =>
    cases hg
    cases h with
    | agg hl hr =>
      refine ⟨_, rfl, by simpa using hl, fun j d u hd hu => ?_⟩
      have := hr j (.d d) u (by simp [hd]) hu
      cases this
      assumption
  | false =>
    match ds, hg with
    | [x], hg =>
      cases hg
      cases h with
      | d h => exact ⟨x, rfl, h⟩
theorem zero_dv {w : World} {O : Nat → Prop} {v : Value} {agg : Bool} (ha : isAggV v = agg) (h : (v.cells.toList.all (·.oneCell')) = true) : DV w O agg (zD v) v := by
  subst ha
  cases v with
  | agg cs =>
    refine ⟨cs, rfl, by simp [zD, Value.cells], fun j d u hd hu => ?_⟩
    simp only [zD, Value.cells, List.getElem?_map] at hd
    obtain ⟨c, hc, rfl⟩ := Option.map_eq_some_iff.1 hd
    have : c = u := by
      have h' : cs[j]? = some c := by simpa using hc
      rw [h'] at hu; exact Option.some.inj hu
    subst this
    exact vd_nilD c (List.all_eq_true.1 h c (List.mem_of_getElem? hc))
  | _ =>
    refine ⟨_, rfl, vd_nilD _ ?_⟩
    simpa [Value.cells] using h

section
variable {P : Program} {Γ : TypeId → Option TI} {F N : Nat} {Q : GPost} {fr fr' : Fr} {hp hp' : List Ob} {ks : List Kt}
variable {ops : Array Oper} {rest : List Oper} {g : G}
variable {d : Tmp} {op : Op} {ty : TypeId} {pos : String} {after : Array Edge} {gd : Option (Nat × Bool)}

/-- A new block, owned, whatever it is. -/
theorem push_ob {Z : Env} {M : Mp} {w : World} (hr : RelH Z hp M w) (o : Ob) (ob : Obj) (c : Nat)
    (ho : ∀ (w' : World) O', Stp w (ownZ Z hp M) w' O' → w'.heap[w.heap.size]? = some ob → ObR w' O' (M ++ [some (w.heap.size, c)]) o (some (w.heap.size, c))) :
    RelH Z (hp ++ [o]) (M ++ [some (w.heap.size, c)]) (w.alloc ob) ∧ Stp w (own hp M) (w.alloc ob) (own (hp ++ [o]) (M ++ [some (w.heap.size, c)])) ∧ Agr hp.length M (M ++ [some (w.heap.size, c)]) := by
  have hst : Stp w (own hp M) (w.alloc ob) (own (hp ++ [o]) (M ++ [some (w.heap.size, c)])) := by
    refine ⟨by simp, fun b hb _ => heap_alloc_old w _ hb, fun b hb => ?_, rfl, rfl, rfl⟩
    rintro ⟨i, o', c', h1, h2, h3⟩
    rcases getq_snoc h3 with ⟨hi, h4⟩ | ⟨hi, h4⟩
    · rcases getq_snoc h1 with ⟨_, h5⟩ | ⟨hi', _⟩
      · exact ⟨i, o', c', h5, h2, h4⟩
      · rw [hr.len] at hi; omega
    · cases h4; omega
  have hM : ∀ i, i < M.length → (M ++ [some (w.heap.size, c)])[i]? = M[i]? := fun i hi => List.getElem?_append_left hi
  refine ⟨⟨by simp [hr.len], fun i o' m h1 h2 => ?_, fun b hb hz => ?_, fun b hb => ?_, hr.amb_stp hst, fun i j oi oj b c1 c2 hi hj li lj mi mj => ?_⟩, hst, ⟨by simp [hr.len], fun i hi => hM i (by rw [hr.len]; exact hi)⟩⟩
  · rcases getq_snoc h1 with ⟨hi, h3⟩ | ⟨hi, rfl⟩
    · have hi' : i < M.length := by rw [hr.len]; exact hi
      rw [hM i hi'] at h2
      have := hr.obj i o' m h3 h2
      refine this.move (k := M.length) (stp_z Z hst) hM this.bel fun b c' e hl => ?_
      subst e
      exact heap_alloc_old w _ (hr.block_lt ⟨i, o', c', h3, hl, h2⟩)
    · subst hi
      rw [← hr.len] at h2
      have : m = some (w.heap.size, c) := by
        rcases getq_snoc h2 with ⟨hi, _⟩ | ⟨_, h⟩
        · omega
        · exact h.symm
      subst this
      exact ho _ _ (stp_z Z hst) (heap_alloc_new w _)
  · by_cases hb' : b < w.heap.size
    · exact hr.apart b (hst.own b hb' hb) hz
    · exact absurd (hr.old b hz) hb'
  · have := hr.old b hb; simp; omega
  · rcases getq_snoc hi with ⟨hi1, hi2⟩ | ⟨hi1, hi2⟩
    · rcases getq_snoc hj with ⟨hj1, hj2⟩ | ⟨hj1, hj2⟩
      · rw [hM i (by rw [hr.len]; exact hi1)] at mi
        rw [hM j (by rw [hr.len]; exact hj1)] at mj
        exact hr.inj i j oi oj b c1 c2 hi2 hj2 li lj mi mj
      · subst hj2
        rw [hM i (by rw [hr.len]; exact hi1)] at mi
        have := hr.block_lt ⟨i, oi, c1, hi2, li, mi⟩
        rw [hj1, ← hr.len] at mj
        simp at mj
        omega
    · subst hi2
      rcases getq_snoc hj with ⟨hj1, hj2⟩ | ⟨hj1, hj2⟩
      · rw [hM j (by rw [hr.len]; exact hj1)] at mj
        have := hr.block_lt ⟨j, oj, c2, hj2, lj, mj⟩
        rw [hi1, ← hr.len] at mi
        simp at mi
        omega
      · omega

/-- A block of an object is laid anew. -/
theorem put_ob {Z : Env} {M : Mp} {w : World} (hr : RelH Z hp M w) {id b c : Nat} {o o' : Ob} {ob' : Obj} (ho : hp[id]? = some o) (hl : o.live = true) (hM : M[id]? = some (some (b, c)))
    (ho' : ∀ (w' : World), Stp w (ownZ Z hp M) w' (ownZ Z (hp.set id o') M) → w'.heap[b]? = some ob' → ObR w' (ownZ Z (hp.set id o') M) M o' (some (b, c))) (hl' : o'.live = true) :
    RelH Z (hp.set id o') M { w with heap := w.heap.setIfInBounds b ob' } ∧ Stp w (own hp M) { w with heap := w.heap.setIfInBounds b ob' } (own (hp.set id o') M) := by
  have hid : id < hp.length := (List.getElem?_eq_some_iff.1 ho).1
  have hb : b < w.heap.size := hr.block_lt ⟨id, o, c, ho, hl, hM⟩
  have hown : ∀ b', own (hp.set id o') M b' → own hp M b' := by
    rintro b' ⟨i, oi, ci, e1, e2, e3⟩
    by_cases hi : i = id
    · subst hi; exact ⟨i, o, ci, ho, hl, e3⟩
    · rw [List.getElem?_set_ne (Ne.symm hi)] at e1; exact ⟨i, oi, ci, e1, e2, e3⟩
  have hother : ∀ k, k ≠ b → (w.heap.setIfInBounds b ob')[k]? = w.heap[k]? := fun k hk => by rw [Array.getElem?_setIfInBounds_ne (Ne.symm hk)]
  have hst : Stp w (own hp M) { w with heap := w.heap.setIfInBounds b ob' } (own (hp.set id o') M) :=
    ⟨by simp, fun b' _ hn => hother b' fun e => hn (e ▸ ⟨id, o, c, ho, hl, hM⟩), fun b' _ h => hown b' h, rfl, rfl, rfl⟩
  refine ⟨⟨by simp [hr.len], fun i oi m e1 e2 => ?_, fun b' hb' hz => hr.apart b' (hown b' hb') hz, fun b' hz => by have := hr.old b' hz; simpa using this, hr.amb_stp hst, fun i j oi oj b1 c1 c2 e1 e2 l1 l2 m1 m2 => ?_⟩, hst⟩
  · by_cases hi : i = id
    · subst hi
      simp [hid] at e1
      subst e1
      rw [hM] at e2
      cases e2
      exact ho' _ (stp_z Z hst) (by simp [hb])
    · rw [List.getElem?_set_ne (Ne.symm hi)] at e1
      have := hr.obj i oi m e1 e2
      refine this.move (k := M.length) (stp_z Z hst) (fun _ _ => rfl) this.bel fun b' c' e hl2 => ?_
      subst e
      refine hother b' fun e => hi ?_
      subst e
      exact hr.inj i id oi o b' c' c e1 ho hl2 hl e2 hM
  · have key : ∀ (i : Nat) (oi : Ob), (hp.set id o')[i]? = some oi → oi.live = true → ∃ oi' : Ob, hp[i]? = some oi' ∧ oi'.live = true := fun i oi e1 l1 => by
      by_cases hi : i = id
      · subst hi; exact ⟨o, ho, hl⟩
      · rw [List.getElem?_set_ne (Ne.symm hi)] at e1; exact ⟨oi, e1, l1⟩
    obtain ⟨oi', f1, f2⟩ := key i oi e1 l1
    obtain ⟨oj', f3, f4⟩ := key j oj e2 l2
    exact hr.inj i j oi' oj' b1 c1 c2 f1 f3 f2 f4 m1 m2

/-- A NEW MAP. -/
theorem ops_makeMap {t : TypeId} (agg : Bool) : OpS P N ⟨some d, .makeMap t none, ty, pos, after, gd⟩ fr hp (.map hp.length) (hp ++ [.map agg []]) := fun Z w M a hr => by
  obtain ⟨r1, r2, r3⟩ := push_ob hr.heap (.map agg []) (.map #[] 0) 0 (fun w' O' hst hh => ⟨#[], 0, hh, rfl, ⟨fun i j e e' h => by simp at h, fun i e h => by simp at h⟩, fun j k ds h => by simp at h⟩)
  refine ⟨.map (some w.heap.size), _, _, ?_, r1, .map (c := 0) ?_, r2, r3⟩
  · simp [execOp, Instr.makeMap, newObj, Sem.run]
  · rw [← hr.heap.len]; simp

variable {K V : Type} [BEq K] {kv : K → Value} {agg : Bool} {enc : V → List D}
theorem map_read {Z : Env} {M : Mp} {w : World} (hr : RelH Z hp M w) {dd : TypeDesc} (hK : KeyOk dd kv) {id b c : Nat} {m : List (K × V)} (ho : hp[id]? = some (mOb kv agg enc m)) (hM : M[id]? = some (some (b, c))) (k : K) :
    ∃ ms cl, w.heap[b]? = some (.map ms cl) ∧ ms.size = m.length ∧ Born ms cl ∧ (∀ (j : Nat) (x : K × V), m[j]? = some x → ∃ e : MapEntry, ms[j]? = some e ∧ e.key = kv x.1 ∧ DV w (ownZ Z hp M) agg (enc x.2) e.val) ∧
      Instr.findNow dd (kv k) ms.toList 0 = some ((m.findIdx? fun e => k == e.1).bind fun j => (ms[j]?).map fun e => (j, e.val)) := by
  obtain ⟨ms, cl, h1, h2, h3, h4⟩ := hr.obj id _ _ ho hM
  have hx : ∀ (j : Nat) (x : K × V), m[j]? = some x → ∃ e : MapEntry, ms[j]? = some e ∧ e.key = kv x.1 ∧ DV w (ownZ Z hp M) agg (enc x.2) e.val := fun j x hj => h4 j _ _ (by simp [hj])
  refine ⟨ms, cl, h1, by simpa using h2, h3, hx, ?_⟩
  have := findNow_ok hK k ms.toList m 0 (by simpa using h2) (fun j e x he hj => by
    obtain ⟨e', e1, e2, _⟩ := hx j x hj
    have : e = e' := by
      have he' : ms[j]? = some e := by simpa using he
      rw [e1] at he'; exact (Option.some.inj he').symm
    rw [this]; exact e2)
  rw [this]
  congr 2
  funext j
  simp

theorem mGet_idx (m : List (K × V)) (k : K) : mGet m k = (m.findIdx? fun e => k == e.1).bind fun j => (m[j]?).map (·.2) := by
  unfold mGet
  induction m with
  | nil => rfl
  | cons x m ih =>
    rw [List.find?_cons, List.findIdx?_cons]
    cases hb : (k == x.1) with
    | true => simp
    | false =>
      simp only [ih]
      cases m.findIdx? fun e => k == e.1 <;> simp
/-- LOOKUP. -/
theorem op_lookup (hΓ : TOK P Γ) {t kt et : TypeId} {i1 i2 i3 : TI} {x y : Operand} {id : Nat} (m : List (K × V)) (k : K) (z : V) {gv : G} (h1 : Γ t = some i1) (h1' : i1.desc = .map kt et) (h2 : Γ kt = some i2) (h3 : Γ et = some i3) (hK : KeyOk i2.desc kv)
    (hx : fr.ev x = some (.map id)) (ho : hp[id]? = some (mOb kv agg enc m)) (hy : fr.ev y = some (.d (.v (kv k)))) (hz : zD i3.zero = enc z) (hag : isAggV i3.zero = agg) (hz1 : (i3.zero.cells.toList.all (·.oneCell')) = true)
    (hg : dG agg (enc ((mGet m k).getD z)) = some gv) : OpP P N ⟨some d, .lookup t x y false, ty, pos, after, gd⟩ fr hp gv := fun Z w M a hr => by
  obtain ⟨u1, _⟩ := hΓ t _ h1
  rw [h1'] at u1
  obtain ⟨u2, _⟩ := hΓ kt _ h2
  obtain ⟨u3, inf, e1, e2, e3, e4⟩ := hΓ et _ h3
  have hvx := hr.ev hx
  simp only [execOp, hr.ev_v hy]
  generalize a.eval x = vx at hvx
  cases hvx with
  | map hM =>
    obtain ⟨ms, cl, m1, m2, m3, m4, m5⟩ := map_read hr.heap hK ho hM k
    have hf := MapKept.run_findKey (P := P) (w := w) u2 m5
    have hc := MapKept.run_checkKey (P := P) (w := w) u2 (hK.key k) ms.isEmpty 9999
    rw [mGet_idx] at hg
    cases hi : m.findIdx? fun e => k == e.1 with
    | none =>
      rw [hi] at hf hg
      simp only [Option.bind_none, Option.getD_none] at hf hg
      refine ⟨i3.zero, ?_, (zero_dv hag hz1).vr (by rw [hz]; exact hg)⟩
      simp [Instr.lookup, run_underlying u1, MapKept.run_getObj_map m1, hc, hf, zeroValue, typeInfo, e1, e4]
    | some j =>
      rw [hi] at hf hg
      have hj : j < m.length := (List.findIdx?_eq_some_iff_getElem.1 hi).1
      obtain ⟨e, f1, f2, f3⟩ := m4 j _ (List.getElem?_eq_getElem hj)
      simp only [Option.bind_some, f1, List.getElem?_eq_getElem hj, Option.map_some, Option.getD_some] at hf hg
      refine ⟨e.val, ?_, f3.vr hg⟩
      simp [Instr.lookup, run_underlying u1, MapKept.run_getObj_map m1, hc, hf]
theorem op_lookupOk (hΓ : TOK P Γ) {t kt et : TypeId} {i1 i2 i3 : TI} {x y : Operand} {id : Nat} (m : List (K × V)) (k : K) (z : V) {gv : G} (h1 : Γ t = some i1) (h1' : i1.desc = .map kt et) (h2 : Γ kt = some i2) (h3 : Γ et = some i3) (hK : KeyOk i2.desc kv)
    (hx : fr.ev x = some (.map id)) (ho : hp[id]? = some (mOb kv agg enc m)) (hy : fr.ev y = some (.d (.v (kv k)))) (hz : zD i3.zero = enc z) (hag : isAggV i3.zero = agg) (hz1 : (i3.zero.cells.toList.all (·.oneCell')) = true)
    (hg : dG agg (enc ((mGet m k).getD z)) = some gv) : OpP P N ⟨some d, .lookup t x y true, ty, pos, after, gd⟩ fr hp (.tup [gv, .d (.v (.bool (mGet m k).isSome))]) := fun Z w M a hr => by
  obtain ⟨u1, _⟩ := hΓ t _ h1
  rw [h1'] at u1
  obtain ⟨u2, _⟩ := hΓ kt _ h2
  obtain ⟨u3, inf, e1, e2, e3, e4⟩ := hΓ et _ h3
  have hvx := hr.ev hx
  simp only [execOp, hr.ev_v hy]
  generalize a.eval x = vx at hvx
  have fin : ∀ (v : Value) (b : Bool), VR w (ownZ Z hp M) M gv v → VR w (ownZ Z hp M) M (.tup [gv, .d (.v (.bool b))]) (.tuple #[v, .bool b]) := fun v b hv => .tup rfl fun j g u hg hu => by
    match j with
    | 0 => cases hg; cases hu; exact hv
    | 1 => cases hg; cases hu; exact .d (.v _ rfl)
    | j + 2 => cases hg
  cases hvx with
  | map hM =>
    obtain ⟨ms, cl, m1, m2, m3, m4, m5⟩ := map_read hr.heap hK ho hM k
    have hf := MapKept.run_findKey (P := P) (w := w) u2 m5
    have hc := MapKept.run_checkKey (P := P) (w := w) u2 (hK.key k) ms.isEmpty 9999
    rw [mGet_idx] at hg ⊢
    cases hi : m.findIdx? fun e => k == e.1 with
    | none =>
      rw [hi] at hf hg
      simp only [Option.bind_none, Option.getD_none] at hf hg
      refine ⟨.tuple #[i3.zero, .bool false], ?_, fin _ false ((zero_dv hag hz1).vr (by rw [hz]; exact hg))⟩
      simp [Instr.lookup, run_underlying u1, MapKept.run_getObj_map m1, hc, hf, zeroValue, typeInfo, e1, e4]
    | some j =>
      rw [hi] at hf hg
      have hj : j < m.length := (List.findIdx?_eq_some_iff_getElem.1 hi).1
      obtain ⟨e, f1, f2, f3⟩ := m4 j _ (List.getElem?_eq_getElem hj)
      simp only [Option.bind_some, f1, List.getElem?_eq_getElem hj, Option.map_some, Option.getD_some] at hf hg
      refine ⟨.tuple #[e.val, .bool true], ?_, ?_⟩
      · simp [Instr.lookup, run_underlying u1, MapKept.run_getObj_map m1, hc, hf]
      · simp only [Option.bind_some, List.getElem?_eq_getElem hj, Option.map_some, Option.isSome_some]
        exact fin _ true (f3.vr hg)
/-- A MAP IS WRITTEN. -/
theorem opu_mapUpdate (hΓ : TOK P Γ) {t kt et : TypeId} {i1 i2 : TI} {x y z : Operand} {id : Nat} (m : List (K × V)) (k : K) (v : V) {gv : G} (h1 : Γ t = some i1) (h1' : i1.desc = .map kt et) (h2 : Γ kt = some i2) (hK : KeyOk i2.desc kv)
    (hx : fr.ev x = some (.map id)) (ho : hp[id]? = some (mOb kv agg enc m)) (hy : fr.ev y = some (.d (.v (kv k)))) (hv : fr.ev z = some gv) (hg : dG agg (enc v) = some gv) :
    OpU P N ⟨none, .mapUpdate t x y z, ty, pos, after, gd⟩ fr hp (hp.set id (mOb kv agg enc (mSet m k v))) := fun Z w M a hr => by
  obtain ⟨u1, _⟩ := hΓ t _ h1
  rw [h1'] at u1
  obtain ⟨u2, _⟩ := hΓ kt _ h2
  have hvx := hr.ev hx
  have hvz := hr.ev hv
  simp only [execOp, hr.ev_v hy]
  generalize a.eval x = vx at hvx
  generalize a.eval z = vz at hvz
  have hdz : DV w (ownZ Z hp M) agg (enc v) vz := hvz.dv hg
  cases hvx with
  | map hM =>
    rename_i b c
    obtain ⟨ms, cl, m1, m2, m3, m4, m5⟩ := map_read hr.heap hK ho hM k
    have hf := MapKept.run_findKey (P := P) (w := w) u2 m5
    have hc := MapKept.run_checkKey (P := P) (w := w) u2 (hK.key k) false 9999
    cases hi : m.findIdx? fun e => k == e.1 with
    | none =>
      rw [hi] at hf
      simp only [Option.bind_none] at hf
      have hset : mSet m k v = m ++ [(k, v)] := by unfold mSet; rw [hi]
      rw [hset]
      obtain ⟨r1, r2⟩ := put_ob (o' := mOb kv agg enc (m ++ [(k, v)])) (ob' := .map (ms.push { key := kv k, val := vz, born := cl }) (cl + 1)) hr.heap ho rfl hM (fun w' hst hh => by
        refine ⟨_, _, hh, by simp [m2], ⟨fun i j e e' hi hj hb => ?_, fun i e hi => ?_⟩, fun j k' ds hj => ?_⟩
        · rw [Array.getElem?_push] at hi hj
          split at hi <;> split at hj
          · omega
          · cases hi; have := m3.2 j e' hj; simp only at hb; omega
          · cases hj; have := m3.2 i e hi; simp only at hb; omega
          · exact m3.1 i j e e' hi hj hb
        · rw [Array.getElem?_push] at hi
          split at hi
          · cases hi; simp
          · have := m3.2 i e hi; omega
        · simp only [List.map_append, List.map_cons, List.map_nil] at hj
          rcases getq_snoc hj with ⟨hl, h'⟩ | ⟨hl, h'⟩
          · rw [List.getElem?_map] at h'
            obtain ⟨x, hx, he⟩ := Option.map_eq_some_iff.1 h'
            simp only [Prod.mk.injEq] at he
            obtain ⟨rfl, rfl⟩ := he
            obtain ⟨e, e1, e2, e3⟩ := m4 j x hx
            have hlt := (Array.getElem?_eq_some_iff.1 e1).1
            exact ⟨e, by rw [Array.getElem?_push_lt hlt, ← Array.getElem?_eq_getElem hlt]; exact e1, e2, e3.step hst⟩
          · simp only [Prod.mk.injEq] at h'
            obtain ⟨rfl, rfl⟩ := h'
            refine ⟨{ key := kv k, val := vz, born := cl }, ?_, rfl, hdz.step hst⟩
            rw [hl, List.length_map, ← m2]
            simp) rfl
      refine ⟨_, M, ?_, r1, r2, ⟨Nat.le_of_eq hr.heap.len.symm, fun _ _ => rfl⟩⟩
      simp [Instr.mapUpdate, run_underlying u1, MapKept.run_getObj_map m1, hc, hf, MapKept.run_setObj_map _ m1]
    | some j =>
      rw [hi] at hf
      have hj : j < m.length := (List.findIdx?_eq_some_iff_getElem.1 hi).1
      have hkj : (k == (m[j]).1) = true := (List.findIdx?_eq_some_iff_getElem.1 hi).2.1
      obtain ⟨e, f1, f2, f3⟩ := m4 j _ (List.getElem?_eq_getElem hj)
      simp only [Option.bind_some, f1, Option.map_some] at hf
      have hset : mSet m k v = m.set j (k, v) := by unfold mSet; rw [hi]
      rw [hset]
      have hjs := (Array.getElem?_eq_some_iff.1 f1).1
      have hbits : Instr.sameBits 10000 e.key (kv k) = true := by rw [f2]; exact hK.bits k _ hkj
      obtain ⟨r1, r2⟩ := put_ob (o' := mOb kv agg enc (m.set j (k, v))) (ob' := .map (ms.modify j fun e => { e with key := kv k, val := vz }) cl) hr.heap ho rfl hM (fun w' hst hh => by
        have hget : ∀ (i : Nat) (e' : MapEntry), (ms.modify j fun e => { e with key := kv k, val := vz })[i]? = some e' → ∃ e0, ms[i]? = some e0 ∧ e'.born = e0.born := fun i e' h => by
          rw [Array.getElem?_modify] at h
          split at h
          · obtain ⟨e0, h0, rfl⟩ := Option.map_eq_some_iff.1 h
            exact ⟨e0, h0, rfl⟩
          · exact ⟨e', h, rfl⟩
        refine ⟨_, _, hh, by simp [m2], ⟨fun i i' e1 e2 h1 h2 hb => ?_, fun i e1 h1 => ?_⟩, fun i k' ds h => ?_⟩
        · obtain ⟨a1, b1, c1⟩ := hget i e1 h1
          obtain ⟨a2, b2, c2⟩ := hget i' e2 h2
          exact m3.1 i i' a1 a2 b1 b2 (by rw [← c1, ← c2]; exact hb)
        · obtain ⟨a1, b1, c1⟩ := hget i e1 h1
          rw [c1]; exact m3.2 i a1 b1
        · rw [List.getElem?_map] at h
          obtain ⟨x, hx, he⟩ := Option.map_eq_some_iff.1 h
          simp only [Prod.mk.injEq] at he
          obtain ⟨rfl, rfl⟩ := he
          by_cases hij : j = i
          · subst hij
            rw [List.getElem?_set_self hj] at hx
            cases hx
            exact ⟨{ e with key := kv k, val := vz }, by rw [Array.getElem?_modify, if_pos rfl, f1]; rfl, rfl, hdz.step hst⟩
          · rw [List.getElem?_set_ne hij] at hx
            obtain ⟨e1, g1, g2, g3⟩ := m4 i x hx
            exact ⟨e1, by rw [Array.getElem?_modify, if_neg hij]; exact g1, g2, g3.step hst⟩) rfl
      refine ⟨_, M, ?_, r1, r2, ⟨Nat.le_of_eq hr.heap.len.symm, fun _ _ => rfl⟩⟩
      simp [Instr.mapUpdate, run_underlying u1, MapKept.run_getObj_map m1, hc, hf, MapKept.run_setObj_map _ m1, f1, Instr.keyThatStays, hbits]
/-- A condition that is a constant. -/
theorem j_condK {b : Bool} {x y : Code} (h : St.holds P F N Q (.code (bif b then x else y) ks) fr hp) : St.holds P F N Q (.code (.cond (.const (.bool b)) x y) ks) fr hp := by
  intro Z w0 O0 M0 w M a hs ha hr
  have hev : a.eval (.const (.bool b)) = .bool b := rfl
  cases b with
  | true => exact wp_cond_split hev (fun _ => h Z w0 O0 M0 w M a hs ha hr) (fun e => by cases e)
  | false => exact wp_cond_split hev (fun e => by cases e) (fun _ => h Z w0 O0 M0 w M a hs ha hr)
/-- A number that becomes a string. -/
def runeS (n : Int) : List UInt8 := (Utf8.encode n).data.toList
theorem op_runeS (hΓ : TOK P Γ) {t t' : TypeId} {i1 i2 : TI} {x : Operand} {kd : IntKind} {n : Int} (h1 : Γ t = some i1) (h1' : i1.desc = .int kd) (h2 : Γ t' = some i2) (h2' : i2.desc = .string) (hx : fr.ev x = some (.d (.v (.int kd n)))) :
    OpP P N ⟨some d, .convert t t' x, ty, pos, after, gd⟩ fr hp (.d (.v (.string ⟨(runeS n).toArray⟩))) := fun Z w M a hr => by
  obtain ⟨u1, _⟩ := hΓ t _ h1
  rw [h1'] at u1
  obtain ⟨u2, _⟩ := hΓ t' _ h2
  rw [h2'] at u2
  simp only [execOp, hr.ev_v hx]
  have e : (⟨(runeS n).toArray⟩ : ByteArray) = Utf8.encode n := by simp [runeS]
  refine ⟨.string (Utf8.encode n), ?_, by rw [e]; exact .d (.v _ rfl)⟩
  simp [convert, run_underlying u1, run_underlying u2, Conv.intToString, asInt]
end
end Go.Gk
