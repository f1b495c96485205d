/-
  THE GHOST LOGIC, PART 34: rows in the fields of structs.
  THE GHOST LOGIC, PART 35: arrays; bytes that become strings.
  THE GHOST LOGIC, PART 36: maps.
  THE GHOST LOGIC, PART 37: slices that are known to be full.
-/
import Derived.Test.YtpgnhnjhpnbelaaGreatDoorGk33
import Derived.MapKept
set_option linter.unusedVariables false
set_option linter.unusedSimpArgs false
namespace Go.Gk
/-- A type's zero; the cells ks are told as they are. -/
def zeroX (ks : List Nat) (i : TI) : List G := i.zero.cells.toList.mapIdx fun j c => .d (bif ks.contains j then .v c else nilD c)
/-- What names the row is forgotten. -/
def G.forg (id : Nat) (g : G) : G := bif g.has id then .junk else g
def Ob.forg (id : Nat) : Ob → Ob
  | .box t gs => .box t (gs.map (G.forg id))
  | o => o
section
variable {P : Program} {Γ : TypeId → Option TI} {F N : Nat} {Q : GPost} {fr fr' : Fr} {hp hp' : List Ob} {ks : List Kt}
variable {α : Type} {enc : α → List D} {ops : Array Oper} {rest : List Oper} {g : G}
variable {d : Tmp} {op : Op} {ty : TypeId} {pos : String} {after : Array Edge} {gd' : Option (Nat × Bool)}

theorem zeroX_ok {Z : Env} {w : World} {M : Mp} {ks : List Nat} {i : TI} (hz : (i.zero.cells.toList.all (·.oneCell')) = true) (j : Nat) (g : G) (hj : (zeroX ks i)[j]? = some g) :
    ∃ c : Value, i.zero.cells[j]? = some c ∧ c.oneCell' = true ∧ VR w (ownZ Z hp M) M g c := by
  simp only [zeroX, List.getElem?_mapIdx] at hj
  obtain ⟨c, hc, rfl⟩ := Option.map_eq_some_iff.1 hj
  have h1 := List.all_eq_true.1 hz c (List.mem_of_getElem? hc)
  refine ⟨c, by simpa using hc, h1, .d ?_⟩
  cases ks.contains j with
  | true => exact .v c h1
  | false => exact vd_nilD c h1

/-- A STRUCT LITERAL, some unset fields told as they are. -/
theorem op_buildX (hΓ : TOK P Γ) (ks : List Nat) {t : TypeId} {fs : Array Field} {i1 : TI} {parts : Array (Nat × Operand)} {pg : List (Nat × G)} {gs : List G} (h1 : Γ t = some i1) (h1' : i1.desc = .struct fs) (hfs : (fs.toList.all fun f => (Γ f.type).isSome) = true)
    (hz : (i1.zero.cells.toList.all (·.oneCell')) = true) (hp' : evParts fr parts.toList = some pg) (hf : fillG (placesG Γ fs) (zeroX ks i1) pg = some gs)
    : OpP P N ⟨some d, .build t parts, ty, pos, after, gd'⟩ fr hp (.agg gs) := by
  intro Z w M a hr
  obtain ⟨u1, inf, e1, e2, e3, e4⟩ := hΓ t _ h1
  rw [h1'] at u1
  obtain ⟨r, p1, p2⟩ := places_run (P := P) (w := w) hΓ fs.toList fun f hf => List.all_eq_true.1 hfs f hf
  have hpl : (fun i => (r.toArray)[i]?) = placesG Γ fs := by
    funext i
    rw [List.getElem?_toArray, p2 i]
    simp [placesG]
  have hpl' : (fun i => r[i]?) = placesG Γ fs := by rw [← hpl]; funext i; simp
  obtain ⟨cs', r1, r2, r3, r4⟩ := fill_ok (place := placesG Γ fs) (cs := i1.zero.cells) hr parts.toList hp' hf (by simp [zeroX]) (fun j g hj => zeroX_ok hz j g hj)
  refine ⟨.agg cs', ?_, .agg r2 fun j g v hg hv => ?_⟩
  · have hm : (fs.mapM fun f => (Prod.mk f.offset <$> sizeOf f.type : Sem (Nat × Nat))).run P w = .ok r.toArray w := by
      rw [Array.mapM_eq_mapM_toList]
      simp [p1]
    simp [execOp, Instr.build, zeroValue, typeInfo, e1, e4, run_underlying u1, hm]
    rw [← hpl'] at r1
    simp [r1]
  · obtain ⟨v', f1, f2, f3⟩ := r4 j g hg
    rw [hv] at f1
    cases f1
    exact f3

/-- A heap with one more row, a nil slice's. -/
theorem heap_nilRow {Z : Env} {w : World} {M : Mp} (te : TypeId) (sz : Nat) (hr : RelH Z hp M w) :
    RelH Z (hp ++ [.row te sz 0 []]) (M ++ [none]) w ∧ Stp w (own hp M) w (own (hp ++ [.row te sz 0 []]) (M ++ [none])) ∧ Agr hp.length M (M ++ [none]) := by
  have hM : ∀ i, i < M.length → (M ++ [none])[i]? = M[i]? := fun i hi => List.getElem?_append_left hi
  have hown : ∀ b, own (hp ++ [.row te sz 0 []]) (M ++ [none]) b → own hp M b := by
    rintro b ⟨i, o, c, h1, h2, h3⟩
    rcases getq_snoc h3 with ⟨hi, h4⟩ | ⟨hi, h4⟩
    · rw [List.getElem?_append_left (by rw [← hr.len]; exact hi)] at h1
      exact ⟨i, o, c, h1, h2, h4⟩
    · cases h4
  have hst : Stp w (own hp M) w (own (hp ++ [.row te sz 0 []]) (M ++ [none])) := ⟨Nat.le_refl _, fun _ _ _ => rfl, fun b _ h => hown b h, rfl, rfl, rfl⟩
  refine ⟨⟨by simp [hr.len], fun i o m h1 h2 => ?_, fun b hb hz => hr.apart b (hown b hb) hz, hr.old, hr.amb, fun i j oi oj b c c' hi hj li lj mi mj => ?_⟩, hst, ⟨by simp [hr.len], fun i hi => hM i (by rw [hr.len]; exact hi)⟩⟩
  · rcases getq_snoc h1 with ⟨hi, h3⟩ | ⟨hi, rfl⟩
    · rw [hM i (by rw [hr.len]; exact hi)] at h2
      have := hr.obj i o m h3 h2
      exact this.move (k := M.length) (stp_z Z hst) hM this.bel fun _ _ _ _ => rfl
    · subst hi
      rw [← hr.len] at h2
      rcases getq_snoc h2 with ⟨hi, _⟩ | ⟨_, h⟩
      · omega
      · subst h; exact ⟨rfl, rfl⟩
  · rcases getq_snoc mi with ⟨hi1, hi2⟩ | ⟨_, hi2⟩
    · rcases getq_snoc mj with ⟨hj1, hj2⟩ | ⟨_, hj2⟩
      · rw [List.getElem?_append_left (by rw [← hr.len]; exact hi1)] at hi
        rw [List.getElem?_append_left (by rw [← hr.len]; exact hj1)] at hj
        exact hr.inj i j oi oj b c c' hi hj li lj hi2 hj2
      · cases hj2
    · cases hi2

/-- A nil field of what an operation yields is made a row of one's own. -/
theorem ops_nilAt (te : TypeId) (sz k : Nat) {o : Oper} {gs : List G} (h : OpS P N o fr hp (.agg gs) hp') (hk : gs[k]? = some (.d (.v (.slice none 0 0)))) :
    OpS P N o fr hp (.agg (gs.set k (.sl hp'.length 0))) (hp' ++ [.row te sz 0 []]) := by
  intro Z w M a hr
  obtain ⟨v, w', M', hrun, h1, h2, h3, h4⟩ := h Z w M a hr
  obtain ⟨k1, k2, k3⟩ := heap_nilRow te sz h1
  have hM : ∀ i, i < M'.length → (M' ++ [none])[i]? = M'[i]? := fun i hi => List.getElem?_append_left hi
  have hle : hp.length ≤ hp'.length := by rw [← h1.len]; exact h4.le
  refine ⟨v, w', M' ++ [none], hrun, k1, ?_, h3.trans k2, h4.trans k3 hle⟩
  cases h2 with
  | agg hl ih =>
    refine .agg (by simpa using hl) fun j g v hg hv => ?_
    by_cases hjk : k = j
    · subst hjk
      have hlt : k < gs.length := (List.getElem?_eq_some_iff.1 hk).1
      rw [List.getElem?_set_self hlt] at hg
      cases hg
      have := ih k _ v hk hv
      rw [vr_v this]
      exact .slnil (by rw [← h1.len]; simp)
    · rw [List.getElem?_set_ne hjk] at hg
      exact (ih j g v hg hv).step (stp_z Z k2) hM

theorem VR.forg {w : World} {O : Nat → Prop} {M : Mp} (id : Nat) {g : G} {v : Value} (h : VR w O M g v) : VR w O M (g.forg id) v := by
  unfold G.forg
  cases g.has id with
  | true => exact .junk v
  | false => exact h

theorem heap_forg {Z : Env} {w : World} {M : Mp} (id : Nat) (hr : RelH Z hp M w) :
    RelH Z (hp.map (Ob.forg id)) M w ∧ Stp w (own hp M) w (own (hp.map (Ob.forg id)) M) := by
  have lv : ∀ o : Ob, (o.forg id).live = o.live := fun o => by cases o <;> rfl
  have hold : ∀ (i : Nat) (o : Ob), (hp.map (Ob.forg id))[i]? = some o → ∃ o0, hp[i]? = some o0 ∧ o = o0.forg id := fun i o h => by
    rw [List.getElem?_map] at h
    obtain ⟨o0, h1, h2⟩ := Option.map_eq_some_iff.1 h
    exact ⟨o0, h1, h2.symm⟩
  have hown : ∀ b, own (hp.map (Ob.forg id)) M b → own hp M b := by
    rintro b ⟨i, o, c, h1, h2, h3⟩
    obtain ⟨o0, e1, rfl⟩ := hold i o h1
    exact ⟨i, o0, c, e1, by rw [← lv o0]; exact h2, h3⟩
  have hst : Stp w (own hp M) w (own (hp.map (Ob.forg id)) M) := ⟨Nat.le_refl _, fun _ _ _ => rfl, fun b _ h => hown b h, rfl, rfl, rfl⟩
  refine ⟨⟨by simp [hr.len], fun i o m h1 h2 => ?_, fun b hb hz => hr.apart b (hown b hb) hz, hr.old, hr.amb, fun i j oi oj b c c' hi hj li lj mi mj => ?_⟩, hst⟩
  · obtain ⟨o0, e1, rfl⟩ := hold i o h1
    have hob := hr.obj i o0 m e1 h2
    have hob' : ObR w (ownZ Z (hp.map (Ob.forg id)) M) M o0 m := hob.move (k := M.length) (stp_z Z hst) (fun _ _ => rfl) hob.bel fun _ _ _ _ => rfl
    cases o0 with
    | box tb gs =>
      match m, hob' with
      | some (b, c), ⟨cs, e1, e2, hc⟩ =>
        refine ⟨cs, e1, by simpa using e2, fun j g hg => ?_⟩
        rw [List.getElem?_map] at hg
        obtain ⟨g0, hg0, rfl⟩ := Option.map_eq_some_iff.1 hg
        obtain ⟨v, f1, f2, f3⟩ := hc j g0 hg0
        exact ⟨v, f1, f2, f3.forg id⟩
    | _ => exact hob'
  · obtain ⟨o1, e1, rfl⟩ := hold i oi hi
    obtain ⟨o2, e2, rfl⟩ := hold j oj hj
    exact hr.inj i j o1 o2 b c c' e1 e2 (by rw [← lv o1]; exact li) (by rw [← lv o2]; exact lj) mi mj

theorem gh_forg (id : Nat) : ∀ Z w M a, Rel Z hp M w fr a N → ∃ M', Rel Z (hp.map (Ob.forg id)) M' w fr a N ∧ Stp w (own hp M) w (own (hp.map (Ob.forg id)) M') ∧ Agr hp.length M M' := by
  intro Z w M a hr
  obtain ⟨h1, h2⟩ := heap_forg id hr.heap
  exact ⟨M, ⟨h1, fun t g h => let ⟨v, e1, e2⟩ := hr.fr t g h; ⟨v, e1, e2.step (stp_z Z h2) (fun _ _ => rfl)⟩, hr.size, hr.defers⟩, h2, ⟨Nat.le_of_eq hr.heap.len.symm, fun _ _ => rfl⟩⟩
/-- The boxes forget a row. -/
theorem eo_forg {l : List Oper} (id : Nat) (hp2 : List Ob) (hhp : hp.map (Ob.forg id) = hp2) (hF : F ≤ hp.length) (k : EO P F N ops l Q fr hp2) : EO P F N ops l Q fr hp := by
  subst hhp
  exact eo_ghost hF (gh_forg id) k
/-- An operation behind a step that forgets. -/
theorem ops_forg {o : Oper} (id : Nat) (h : OpS P N o fr (hp.map (Ob.forg id)) g hp') : OpS P N o fr hp g hp' := by
  intro Z w M a hr
  obtain ⟨M1, h1, h2, h3⟩ := gh_forg id Z w M a hr
  obtain ⟨v, w', M', hrun, k1, k2, k3, k4⟩ := h Z w M1 a h1
  exact ⟨v, w', M', hrun, k1, k2, h2.trans k3, h3.trans k4 (by simp)⟩
end
end Go.Gk
namespace Go.Gk
section
variable {P : Program} {Γ : TypeId → Option TI} {F N : Nat} {Q : GPost} {fr fr' : Fr} {hp hp' : List Ob} {ks : List Kt}
variable {α : Type} {enc : α → List D} {ops : Array Oper} {rest : List Oper} {g : G}
variable {d : Tmp} {op : Op} {ty : TypeId} {pos : String} {after : Array Edge} {gd : Option (Nat × Bool)}
/-- An element of an array that is data. -/
theorem op_indexArrZ (hΓ : TOK P Γ) {t e : TypeId} {n : Nat} {i1 i2 : TI} {x y : Operand} {gs : List G} (l : List α) {z : α} {kd : IntKind} {k : Int} (hz : getZ l k = some z) (h1 : Γ t = some i1) (h1' : i1.desc = .array n e) (h2 : Γ e = some i2)
    (hx : fr.ev x = some (.agg gs)) (hgs : gs = (l.flatMap enc).map G.d) (hn : n = l.length) (hy : fr.ev y = some (.d (.v (.int kd k)))) (henc : ∀ y, (enc y).length = i2.size)
    (hg : (bif TypeDesc.isAgg i2.desc then some (.agg ((enc z).map G.d)) else ((enc z).head?).map G.d) = some g) : OpP P N ⟨some d, .index t x y, ty, pos, after, gd⟩ fr hp g := fun Z w M a hr => by
  obtain ⟨i, rfl, hi, hz'⟩ := getZ_ok hz
  subst hgs
  obtain ⟨u1, _⟩ := hΓ t _ h1
  rw [h1'] at u1
  have hs := run_size' (P := P) (w := w) hΓ h2
  have hvx := hr.ev hx
  simp only [execOp, hr.ev_v hy]
  generalize a.eval x = vx at hvx
  have hdrop : (l.flatMap enc).drop (i * i2.size) = enc z ++ (l.drop (i + 1)).flatMap enc := by
    rw [← flat_drop henc, List.drop_eq_getElem_cons hi, List.flatMap_cons]
    have : l[i] = z := by rw [List.getElem?_eq_getElem hi] at hz'; exact Option.some.inj hz'
    rw [this]
  have hpart : partG i2 ((l.flatMap enc).map G.d) (i * i2.size) = some g := by
    unfold partG
    cases hb : TypeDesc.isAgg i2.desc with
    | true =>
      rw [hb] at hg
      simp only [cond_true] at hg ⊢
      rw [← hg, ← List.map_drop, hdrop, List.map_append, List.take_append_of_le_length (by simp [henc]), List.take_of_length_le (by simp [henc])]
    | false =>
      rw [hb] at hg
      simp only [cond_false] at hg ⊢
      rw [← List.map_drop, hdrop]
      cases hen : enc z with
      | nil => rw [hen] at hg; cases hg
      | cons c cs => rw [hen] at hg; exact hg
  have hin : i < n := by omega
  cases hvx with
  | agg hl hr' =>
    obtain ⟨v, e1, e2⟩ := part_ok (w := w) (hp := hp) (M := M) (Z := Z) hΓ h2 (VR.agg hl hr') hpart
    refine ⟨v, ?_, e2⟩
    have : (0 : Int) ≤ (i : Int) ∧ (i : Int) < (n : Int) := by omega
    simp [Instr.index, asIntOf, run_underlying u1, hs, this, e1, hin]
/-- AN ARRAY LITERAL. -/
theorem op_buildA (hΓ : TOK P Γ) {t e : TypeId} {n : Nat} {i1 i2 : TI} {parts : Array (Nat × Operand)} {pg : List (Nat × G)} {gs : List G} (h1 : Γ t = some i1) (h1' : i1.desc = .array n e) (h2 : Γ e = some i2)
    (hz : (i1.zero.cells.toList.all (·.oneCell')) = true) (hp' : evParts fr parts.toList = some pg) (hf : fillG (fun i => some (i * i2.size, i2.size)) (zeroG i1) pg = some gs)
    : OpP P N ⟨some d, .build t parts, ty, pos, after, gd⟩ fr hp (.agg gs) := by
  intro Z w M a hr
  obtain ⟨u1, inf, e1, e2, e3, e4⟩ := hΓ t _ h1
  rw [h1'] at u1
  have hs := run_size' (P := P) (w := w) hΓ h2
  obtain ⟨cs', r1, r2, r3, r4⟩ := fill_ok (place := fun i => some (i * i2.size, i2.size)) (cs := i1.zero.cells) hr parts.toList hp' hf (by simp [zeroG]) (fun j g hj => by
    simp only [zeroG, List.getElem?_map] at hj
    obtain ⟨c, hc, rfl⟩ := Option.map_eq_some_iff.1 hj
    exact ⟨c, by simpa using hc, List.all_eq_true.1 hz c (List.mem_of_getElem? hc), .d (vd_nilD c (List.all_eq_true.1 hz c (List.mem_of_getElem? hc)))⟩)
  refine ⟨.agg cs', ?_, .agg r2 fun j g v hg hv => ?_⟩
  · simp [execOp, Instr.build, zeroValue, typeInfo, e1, e4, run_underlying u1, hs]
    simp [r1]
  · obtain ⟨v', f1, f2, f3⟩ := r4 j g hg
    rw [hv] at f1
    cases f1
    exact f3
end
end Go.Gk
namespace Go.Gk

theorem set_at {α : Type} {l : List α} {j : Nat} {x y : α} (h : l[j]? = some x) : (l.set j y)[j]? = some y := by
  rw [List.getElem?_set_self (List.getElem?_eq_some_iff.1 h).1]

/-! ### Maps as lists -/
def mGet {K V : Type} [BEq K] (m : List (K × V)) (k : K) : Option V := (m.find? fun e => k == e.1).map (·.2)
def mSet {K V : Type} [BEq K] (m : List (K × V)) (k : K) (v : V) : List (K × V) := match m.findIdx? (fun e => k == e.1) with
  | some i => m.set i (k, v)
  | none => m ++ [(k, v)]
abbrev mOb {K V : Type} (kv : K → Value) (agg : Bool) (enc : V → List D) (m : List (K × V)) : Ob := .map agg (m.map fun e => (kv e.1, enc e.2))
abbrev kS (s : List UInt8) : Value := .string ⟨s.toArray⟩
abbrev kI (k : IntKind) (n : Int) : Value := .int k n
/-- Keys that are told apart at once. -/
structure KeyOk {K : Type} [BEq K] (d : TypeDesc) (kv : K → Value) : Prop where
  same : ∀ a b : K, Instr.sameNow d (kv a) (kv b) = some (a == b)
  bits : ∀ a b : K, (a == b) = true → Instr.sameBits 10000 (kv b) (kv a) = true
  key : ∀ a : K, MapKept.IsKey d (kv a)
  eq : ∀ a b : K, (a == b) = true → a = b
theorem key_str : KeyOk (K := List UInt8) .string kS := ⟨fun a b => by
    show some ((⟨a.toArray⟩ : ByteArray) == ⟨b.toArray⟩) = some (a == b)
    refine congrArg some ?_
    show (a.toArray == b.toArray) = (a == b)
    simp, fun a b h => by
    obtain rfl : a = b := by simpa using h
    show ((⟨a.toArray⟩ : ByteArray) == ⟨a.toArray⟩) = true
    show (a.toArray == a.toArray) = true
    simp, fun a => by simp [MapKept.IsKey, kS], fun a b h => by simpa using h⟩
theorem key_int (k : IntKind) : KeyOk (K := Int) (.int k) (kI k) := ⟨fun a b => by simp [Instr.sameNow, kI], fun a b h => by
    obtain rfl : a = b := by simpa using h
    simp [Instr.sameBits, kI], fun a => by simp [MapKept.IsKey, kI], fun a b h => by simpa using h⟩
theorem findNow_ok {K V : Type} [BEq K] {d : TypeDesc} {kv : K → Value} (hK : KeyOk d kv) (k : K) : ∀ (l : List MapEntry) (m : List (K × V)) (i : Nat), l.length = m.length → (∀ (j : Nat) (e : MapEntry) (x : K × V), l[j]? = some e → m[j]? = some x → e.key = kv x.1) →
    Instr.findNow d (kv k) l i = some ((m.findIdx? fun e => k == e.1).bind fun j => (l[j]?).map fun e => (i + j, e.val))
  | [], [], i, _, _ => rfl
  | e :: l, x :: m, i, hl, hk => by
    have ih := findNow_ok hK k l m (i + 1) (by simpa using hl) fun j e x he hx => hk (j + 1) e x (by simpa using he) (by simpa using hx)
    have h0 := hk 0 e x (by simp) (by simp)
    simp only [Instr.findNow, h0, hK.same, List.findIdx?_cons]
    cases hb : (k == x.1) with
    | true => simp
    | false =>
      simp only [ih]
      cases m.findIdx? fun e => k == e.1 with
      | none => rfl
      | some j => simp [Nat.add_assoc, Nat.add_comm 1 j]
  | [], _ :: _, _, h, _ => by simp at h
  | _ :: _, [], _, h, _ => by simp at h

/-- A value's ghost, where it is data. -/
def zD (v : Value) : List D := v.cells.toList.map nilD
def isAggV : Value → Bool
  | .agg _ => true
  | _ => false
def dG (agg : Bool) (ds : List D) : Option G := match agg with
  | true => some (.agg (ds.map G.d))
  | false => match ds with
    | [d] => some (.d d)
    | _ => none
theorem DV.vr {w : World} {O : Nat → Prop} {M : Mp} {agg : Bool} {ds : List D} {v : Value} {g : G} (h : DV w O agg ds v) (hg : dG agg ds = some g) : VR w O M g v := by
  cases agg with
  | true =>
    obtain ⟨cs, rfl, h1, h2⟩ := h
    cases hg
    refine .agg (by simpa using h1) fun j g v hg hv => ?_
    rw [List.getElem?_map] at hg
    obtain ⟨d, hd, rfl⟩ := Option.map_eq_some_iff.1 hg
    exact .d (h2 j d v hd hv)
  | false =>
    obtain ⟨d, rfl, h1⟩ := h
    cases hg
    exact .d h1
theorem VR.dv {w : World} {O : Nat → Prop} {M : Mp} {agg : Bool} {ds : List D} {v : Value} {g : G} (h : VR w O M g v) (hg : dG agg ds = some g) : DV w O agg ds v := by
  cases agg with
  | true =>
    cases hg
    cases h with
    | agg hl hr =>
      refine ⟨_, rfl, by simpa using hl, fun j d u hd hu => ?_⟩
      have := hr j (.d d) u (by simp [hd]) hu
      cases this
      assumption
  | false =>
    match ds, hg with
    | [x], hg =>
      cases hg
      cases h with
      | d h => exact ⟨x, rfl, h⟩
theorem zero_dv {w : World} {O : Nat → Prop} {v : Value} {agg : Bool} (ha : isAggV v = agg) (h : (v.cells.toList.all (·.oneCell')) = true) : DV w O agg (zD v) v := by
  subst ha
  cases v with
  | agg cs =>
    refine ⟨cs, rfl, by simp [zD, Value.cells], fun j d u hd hu => ?_⟩
    simp only [zD, Value.cells, List.getElem?_map] at hd
    obtain ⟨c, hc, rfl⟩ := Option.map_eq_some_iff.1 hd
    have : c = u := by
      have h' : cs[j]? = some c := by simpa using hc
      rw [h'] at hu; exact Option.some.inj hu
    subst this
    exact vd_nilD c (List.all_eq_true.1 h c (List.mem_of_getElem? hc))
  | _ =>
    refine ⟨_, rfl, vd_nilD _ ?_⟩
    simpa [Value.cells] using h

section
variable {P : Program} {Γ : TypeId → Option TI} {F N : Nat} {Q : GPost} {fr fr' : Fr} {hp hp' : List Ob} {ks : List Kt}
variable {ops : Array Oper} {rest : List Oper} {g : G}
variable {d : Tmp} {op : Op} {ty : TypeId} {pos : String} {after : Array Edge} {gd : Option (Nat × Bool)}

/-- A new block, owned, whatever it is. -/
theorem push_ob {Z : Env} {M : Mp} {w : World} (hr : RelH Z hp M w) (o : Ob) (ob : Obj) (c : Nat)
    (ho : ∀ (w' : World) O', Stp w (ownZ Z hp M) w' O' → w'.heap[w.heap.size]? = some ob → ObR w' O' (M ++ [some (w.heap.size, c)]) o (some (w.heap.size, c))) :
    RelH Z (hp ++ [o]) (M ++ [some (w.heap.size, c)]) (w.alloc ob) ∧ Stp w (own hp M) (w.alloc ob) (own (hp ++ [o]) (M ++ [some (w.heap.size, c)])) ∧ Agr hp.length M (M ++ [some (w.heap.size, c)]) := by
  have hst : Stp w (own hp M) (w.alloc ob) (own (hp ++ [o]) (M ++ [some (w.heap.size, c)])) := by
    refine ⟨by simp, fun b hb _ => heap_alloc_old w _ hb, fun b hb => ?_, rfl, rfl, rfl⟩
    rintro ⟨i, o', c', h1, h2, h3⟩
    rcases getq_snoc h3 with ⟨hi, h4⟩ | ⟨hi, h4⟩
    · rcases getq_snoc h1 with ⟨_, h5⟩ | ⟨hi', _⟩
      · exact ⟨i, o', c', h5, h2, h4⟩
      · rw [hr.len] at hi; omega
    · cases h4; omega
  have hM : ∀ i, i < M.length → (M ++ [some (w.heap.size, c)])[i]? = M[i]? := fun i hi => List.getElem?_append_left hi
  refine ⟨⟨by simp [hr.len], fun i o' m h1 h2 => ?_, fun b hb hz => ?_, fun b hb => ?_, hr.amb_stp hst, fun i j oi oj b c1 c2 hi hj li lj mi mj => ?_⟩, hst, ⟨by simp [hr.len], fun i hi => hM i (by rw [hr.len]; exact hi)⟩⟩
  · rcases getq_snoc h1 with ⟨hi, h3⟩ | ⟨hi, rfl⟩
    · have hi' : i < M.length := by rw [hr.len]; exact hi
      rw [hM i hi'] at h2
      have := hr.obj i o' m h3 h2
      refine this.move (k := M.length) (stp_z Z hst) hM this.bel fun b c' e hl => ?_
      subst e
      exact heap_alloc_old w _ (hr.block_lt ⟨i, o', c', h3, hl, h2⟩)
    · subst hi
      rw [← hr.len] at h2
      have : m = some (w.heap.size, c) := by
        rcases getq_snoc h2 with ⟨hi, _⟩ | ⟨_, h⟩
        · omega
        · exact h.symm
      subst this
      exact ho _ _ (stp_z Z hst) (heap_alloc_new w _)
  · by_cases hb' : b < w.heap.size
    · exact hr.apart b (hst.own b hb' hb) hz
    · exact absurd (hr.old b hz) hb'
  · have := hr.old b hb; simp; omega
  · rcases getq_snoc hi with ⟨hi1, hi2⟩ | ⟨hi1, hi2⟩
    · rcases getq_snoc hj with ⟨hj1, hj2⟩ | ⟨hj1, hj2⟩
      · rw [hM i (by rw [hr.len]; exact hi1)] at mi
        rw [hM j (by rw [hr.len]; exact hj1)] at mj
        exact hr.inj i j oi oj b c1 c2 hi2 hj2 li lj mi mj
      · subst hj2
        rw [hM i (by rw [hr.len]; exact hi1)] at mi
        have := hr.block_lt ⟨i, oi, c1, hi2, li, mi⟩
        rw [hj1, ← hr.len] at mj
        simp at mj
        omega
    · subst hi2
      rcases getq_snoc hj with ⟨hj1, hj2⟩ | ⟨hj1, hj2⟩
      · rw [hM j (by rw [hr.len]; exact hj1)] at mj
        have := hr.block_lt ⟨j, oj, c2, hj2, lj, mj⟩
        rw [hi1, ← hr.len] at mi
        simp at mi
        omega
      · omega

/-- A block of an object is laid anew. -/
theorem put_ob {Z : Env} {M : Mp} {w : World} (hr : RelH Z hp M w) {id b c : Nat} {o o' : Ob} {ob' : Obj} (ho : hp[id]? = some o) (hl : o.live = true) (hM : M[id]? = some (some (b, c)))
    (ho' : ∀ (w' : World), Stp w (ownZ Z hp M) w' (ownZ Z (hp.set id o') M) → w'.heap[b]? = some ob' → ObR w' (ownZ Z (hp.set id o') M) M o' (some (b, c))) (hl' : o'.live = true) :
    RelH Z (hp.set id o') M { w with heap := w.heap.setIfInBounds b ob' } ∧ Stp w (own hp M) { w with heap := w.heap.setIfInBounds b ob' } (own (hp.set id o') M) := by
  have hid : id < hp.length := (List.getElem?_eq_some_iff.1 ho).1
  have hb : b < w.heap.size := hr.block_lt ⟨id, o, c, ho, hl, hM⟩
  have hown : ∀ b', own (hp.set id o') M b' → own hp M b' := by
    rintro b' ⟨i, oi, ci, e1, e2, e3⟩
    by_cases hi : i = id
    · subst hi; exact ⟨i, o, ci, ho, hl, e3⟩
    · rw [List.getElem?_set_ne (Ne.symm hi)] at e1; exact ⟨i, oi, ci, e1, e2, e3⟩
  have hother : ∀ k, k ≠ b → (w.heap.setIfInBounds b ob')[k]? = w.heap[k]? := fun k hk => by rw [Array.getElem?_setIfInBounds_ne (Ne.symm hk)]
  have hst : Stp w (own hp M) { w with heap := w.heap.setIfInBounds b ob' } (own (hp.set id o') M) :=
    ⟨by simp, fun b' _ hn => hother b' fun e => hn (e ▸ ⟨id, o, c, ho, hl, hM⟩), fun b' _ h => hown b' h, rfl, rfl, rfl⟩
  refine ⟨⟨by simp [hr.len], fun i oi m e1 e2 => ?_, fun b' hb' hz => hr.apart b' (hown b' hb') hz, fun b' hz => by have := hr.old b' hz; simpa using this, hr.amb_stp hst, fun i j oi oj b1 c1 c2 e1 e2 l1 l2 m1 m2 => ?_⟩, hst⟩
  · by_cases hi : i = id
    · subst hi
      simp [hid] at e1
      subst e1
      rw [hM] at e2
      cases e2
      exact ho' _ (stp_z Z hst) (by simp [hb])
    · rw [List.getElem?_set_ne (Ne.symm hi)] at e1
      have := hr.obj i oi m e1 e2
      refine this.move (k := M.length) (stp_z Z hst) (fun _ _ => rfl) this.bel fun b' c' e hl2 => ?_
      subst e
      refine hother b' fun e => hi ?_
      subst e
      exact hr.inj i id oi o b' c' c e1 ho hl2 hl e2 hM
  · have key : ∀ (i : Nat) (oi : Ob), (hp.set id o')[i]? = some oi → oi.live = true → ∃ oi' : Ob, hp[i]? = some oi' ∧ oi'.live = true := fun i oi e1 l1 => by
      by_cases hi : i = id
      · subst hi; exact ⟨o, ho, hl⟩
      · rw [List.getElem?_set_ne (Ne.symm hi)] at e1; exact ⟨oi, e1, l1⟩
    obtain ⟨oi', f1, f2⟩ := key i oi e1 l1
    obtain ⟨oj', f3, f4⟩ := key j oj e2 l2
    exact hr.inj i j oi' oj' b1 c1 c2 f1 f3 f2 f4 m1 m2

/-- A NEW MAP. -/
theorem ops_makeMap {t : TypeId} (agg : Bool) : OpS P N ⟨some d, .makeMap t none, ty, pos, after, gd⟩ fr hp (.map hp.length) (hp ++ [.map agg []]) := fun Z w M a hr => by
  obtain ⟨r1, r2, r3⟩ := push_ob hr.heap (.map agg []) (.map #[] 0) 0 (fun w' O' hst hh => ⟨#[], 0, hh, rfl, ⟨fun i j e e' h => by simp at h, fun i e h => by simp at h⟩, fun j k ds h => by simp at h⟩)
  refine ⟨.map (some w.heap.size), _, _, ?_, r1, .map (c := 0) ?_, r2, r3⟩
  · simp [execOp, Instr.makeMap, newObj, Sem.run]
  · rw [← hr.heap.len]; simp

variable {K V : Type} [BEq K] {kv : K → Value} {agg : Bool} {enc : V → List D}
theorem map_read {Z : Env} {M : Mp} {w : World} (hr : RelH Z hp M w) {dd : TypeDesc} (hK : KeyOk dd kv) {id b c : Nat} {m : List (K × V)} (ho : hp[id]? = some (mOb kv agg enc m)) (hM : M[id]? = some (some (b, c))) (k : K) :
    ∃ ms cl, w.heap[b]? = some (.map ms cl) ∧ ms.size = m.length ∧ Born ms cl ∧ (∀ (j : Nat) (x : K × V), m[j]? = some x → ∃ e : MapEntry, ms[j]? = some e ∧ e.key = kv x.1 ∧ DV w (ownZ Z hp M) agg (enc x.2) e.val) ∧
      Instr.findNow dd (kv k) ms.toList 0 = some ((m.findIdx? fun e => k == e.1).bind fun j => (ms[j]?).map fun e => (j, e.val)) := by
  obtain ⟨ms, cl, h1, h2, h3, h4⟩ := hr.obj id _ _ ho hM
  have hx : ∀ (j : Nat) (x : K × V), m[j]? = some x → ∃ e : MapEntry, ms[j]? = some e ∧ e.key = kv x.1 ∧ DV w (ownZ Z hp M) agg (enc x.2) e.val := fun j x hj => h4 j _ _ (by simp [hj])
  refine ⟨ms, cl, h1, by simpa using h2, h3, hx, ?_⟩
  have := findNow_ok hK k ms.toList m 0 (by simpa using h2) (fun j e x he hj => by
    obtain ⟨e', e1, e2, _⟩ := hx j x hj
    have : e = e' := by
      have he' : ms[j]? = some e := by simpa using he
      rw [e1] at he'; exact (Option.some.inj he').symm
    rw [this]; exact e2)
  rw [this]
  congr 2
  funext j
  simp

theorem mGet_idx (m : List (K × V)) (k : K) : mGet m k = (m.findIdx? fun e => k == e.1).bind fun j => (m[j]?).map (·.2) := by
  unfold mGet
  induction m with
  | nil => rfl
  | cons x m ih =>
    rw [List.find?_cons, List.findIdx?_cons]
    cases hb : (k == x.1) with
    | true => simp
    | false =>
      simp only [ih]
      cases m.findIdx? fun e => k == e.1 <;> simp
/-- LOOKUP. -/
theorem op_lookup (hΓ : TOK P Γ) {t kt et : TypeId} {i1 i2 i3 : TI} {x y : Operand} {id : Nat} (m : List (K × V)) (k : K) (z : V) {gv : G} (h1 : Γ t = some i1) (h1' : i1.desc = .map kt et) (h2 : Γ kt = some i2) (h3 : Γ et = some i3) (hK : KeyOk i2.desc kv)
    (hx : fr.ev x = some (.map id)) (ho : hp[id]? = some (mOb kv agg enc m)) (hy : fr.ev y = some (.d (.v (kv k)))) (hz : zD i3.zero = enc z) (hag : isAggV i3.zero = agg) (hz1 : (i3.zero.cells.toList.all (·.oneCell')) = true)
    (hg : dG agg (enc ((mGet m k).getD z)) = some gv) : OpP P N ⟨some d, .lookup t x y false, ty, pos, after, gd⟩ fr hp gv := fun Z w M a hr => by
  obtain ⟨u1, _⟩ := hΓ t _ h1
  rw [h1'] at u1
  obtain ⟨u2, _⟩ := hΓ kt _ h2
  obtain ⟨u3, inf, e1, e2, e3, e4⟩ := hΓ et _ h3
  have hvx := hr.ev hx
  simp only [execOp, hr.ev_v hy]
  generalize a.eval x = vx at hvx
  cases hvx with
  | map hM =>
    obtain ⟨ms, cl, m1, m2, m3, m4, m5⟩ := map_read hr.heap hK ho hM k
    have hf := MapKept.run_findKey (P := P) (w := w) u2 m5
    have hc := MapKept.run_checkKey (P := P) (w := w) u2 (hK.key k) ms.isEmpty 9999
    rw [mGet_idx] at hg
    cases hi : m.findIdx? fun e => k == e.1 with
    | none =>
      rw [hi] at hf hg
      simp only [Option.bind_none, Option.getD_none] at hf hg
      refine ⟨i3.zero, ?_, (zero_dv hag hz1).vr (by rw [hz]; exact hg)⟩
      simp [Instr.lookup, run_underlying u1, MapKept.run_getObj_map m1, hc, hf, zeroValue, typeInfo, e1, e4]
    | some j =>
      rw [hi] at hf hg
      have hj : j < m.length := (List.findIdx?_eq_some_iff_getElem.1 hi).1
      obtain ⟨e, f1, f2, f3⟩ := m4 j _ (List.getElem?_eq_getElem hj)
      simp only [Option.bind_some, f1, List.getElem?_eq_getElem hj, Option.map_some, Option.getD_some] at hf hg
      refine ⟨e.val, ?_, f3.vr hg⟩
      simp [Instr.lookup, run_underlying u1, MapKept.run_getObj_map m1, hc, hf]
theorem op_lookupOk (hΓ : TOK P Γ) {t kt et : TypeId} {i1 i2 i3 : TI} {x y : Operand} {id : Nat} (m : List (K × V)) (k : K) (z : V) {gv : G} (h1 : Γ t = some i1) (h1' : i1.desc = .map kt et) (h2 : Γ kt = some i2) (h3 : Γ et = some i3) (hK : KeyOk i2.desc kv)
    (hx : fr.ev x = some (.map id)) (ho : hp[id]? = some (mOb kv agg enc m)) (hy : fr.ev y = some (.d (.v (kv k)))) (hz : zD i3.zero = enc z) (hag : isAggV i3.zero = agg) (hz1 : (i3.zero.cells.toList.all (·.oneCell')) = true)
    (hg : dG agg (enc ((mGet m k).getD z)) = some gv) : OpP P N ⟨some d, .lookup t x y true, ty, pos, after, gd⟩ fr hp (.tup [gv, .d (.v (.bool (mGet m k).isSome))]) := fun Z w M a hr => by
  obtain ⟨u1, _⟩ := hΓ t _ h1
  rw [h1'] at u1
  obtain ⟨u2, _⟩ := hΓ kt _ h2
  obtain ⟨u3, inf, e1, e2, e3, e4⟩ := hΓ et _ h3
  have hvx := hr.ev hx
  simp only [execOp, hr.ev_v hy]
  generalize a.eval x = vx at hvx
  have fin : ∀ (v : Value) (b : Bool), VR w (ownZ Z hp M) M gv v → VR w (ownZ Z hp M) M (.tup [gv, .d (.v (.bool b))]) (.tuple #[v, .bool b]) := fun v b hv => .tup rfl fun j g u hg hu => by
    match j with
    | 0 => cases hg; cases hu; exact hv
    | 1 => cases hg; cases hu; exact .d (.v _ rfl)
    | j + 2 => cases hg
  cases hvx with
  | map hM =>
    obtain ⟨ms, cl, m1, m2, m3, m4, m5⟩ := map_read hr.heap hK ho hM k
    have hf := MapKept.run_findKey (P := P) (w := w) u2 m5
    have hc := MapKept.run_checkKey (P := P) (w := w) u2 (hK.key k) ms.isEmpty 9999
    rw [mGet_idx] at hg ⊢
    cases hi : m.findIdx? fun e => k == e.1 with
    | none =>
      rw [hi] at hf hg
      simp only [Option.bind_none, Option.getD_none] at hf hg
      refine ⟨.tuple #[i3.zero, .bool false], ?_, fin _ false ((zero_dv hag hz1).vr (by rw [hz]; exact hg))⟩
      simp [Instr.lookup, run_underlying u1, MapKept.run_getObj_map m1, hc, hf, zeroValue, typeInfo, e1, e4]
    | some j =>
      rw [hi] at hf hg
      have hj : j < m.length := (List.findIdx?_eq_some_iff_getElem.1 hi).1
      obtain ⟨e, f1, f2, f3⟩ := m4 j _ (List.getElem?_eq_getElem hj)
      simp only [Option.bind_some, f1, List.getElem?_eq_getElem hj, Option.map_some, Option.getD_some] at hf hg
      refine ⟨.tuple #[e.val, .bool true], ?_, ?_⟩
      · simp [Instr.lookup, run_underlying u1, MapKept.run_getObj_map m1, hc, hf]
      · simp only [Option.bind_some, List.getElem?_eq_getElem hj, Option.map_some, Option.isSome_some]
        exact fin _ true (f3.vr hg)
/-- A MAP IS WRITTEN. -/
theorem opu_mapUpdate (hΓ : TOK P Γ) {t kt et : TypeId} {i1 i2 : TI} {x y z : Operand} {id : Nat} (m : List (K × V)) (k : K) (v : V) {gv : G} (h1 : Γ t = some i1) (h1' : i1.desc = .map kt et) (h2 : Γ kt = some i2) (hK : KeyOk i2.desc kv)
    (hx : fr.ev x = some (.map id)) (ho : hp[id]? = some (mOb kv agg enc m)) (hy : fr.ev y = some (.d (.v (kv k)))) (hv : fr.ev z = some gv) (hg : dG agg (enc v) = some gv) :
    OpU P N ⟨none, .mapUpdate t x y z, ty, pos, after, gd⟩ fr hp (hp.set id (mOb kv agg enc (mSet m k v))) := fun Z w M a hr => by
  obtain ⟨u1, _⟩ := hΓ t _ h1
  rw [h1'] at u1
  obtain ⟨u2, _⟩ := hΓ kt _ h2
  have hvx := hr.ev hx
  have hvz := hr.ev hv
  simp only [execOp, hr.ev_v hy]
  generalize a.eval x = vx at hvx
  generalize a.eval z = vz at hvz
  have hdz : DV w (ownZ Z hp M) agg (enc v) vz := hvz.dv hg
  cases hvx with
  | map hM =>
    rename_i b c
    obtain ⟨ms, cl, m1, m2, m3, m4, m5⟩ := map_read hr.heap hK ho hM k
    have hf := MapKept.run_findKey (P := P) (w := w) u2 m5
    have hc := MapKept.run_checkKey (P := P) (w := w) u2 (hK.key k) false 9999
    cases hi : m.findIdx? fun e => k == e.1 with
    | none =>
      rw [hi] at hf
      simp only [Option.bind_none] at hf
      have hset : mSet m k v = m ++ [(k, v)] := by unfold mSet; rw [hi]
      rw [hset]
      obtain ⟨r1, r2⟩ := put_ob (o' := mOb kv agg enc (m ++ [(k, v)])) (ob' := .map (ms.push { key := kv k, val := vz, born := cl }) (cl + 1)) hr.heap ho rfl hM (fun w' hst hh => by
        refine ⟨_, _, hh, by simp [m2], ⟨fun i j e e' hi hj hb => ?_, fun i e hi => ?_⟩, fun j k' ds hj => ?_⟩
        · rw [Array.getElem?_push] at hi hj
          split at hi <;> split at hj
          · omega
          · cases hi; have := m3.2 j e' hj; simp only at hb; omega
          · cases hj; have := m3.2 i e hi; simp only at hb; omega
          · exact m3.1 i j e e' hi hj hb
        · rw [Array.getElem?_push] at hi
          split at hi
          · cases hi; simp
          · have := m3.2 i e hi; omega
        · simp only [List.map_append, List.map_cons, List.map_nil] at hj
          rcases getq_snoc hj with ⟨hl, h'⟩ | ⟨hl, h'⟩
          · rw [List.getElem?_map] at h'
            obtain ⟨x, hx, he⟩ := Option.map_eq_some_iff.1 h'
            simp only [Prod.mk.injEq] at he
            obtain ⟨rfl, rfl⟩ := he
            obtain ⟨e, e1, e2, e3⟩ := m4 j x hx
            have hlt := (Array.getElem?_eq_some_iff.1 e1).1
            exact ⟨e, by rw [Array.getElem?_push_lt hlt, ← Array.getElem?_eq_getElem hlt]; exact e1, e2, e3.step hst⟩
          · simp only [Prod.mk.injEq] at h'
            obtain ⟨rfl, rfl⟩ := h'
            refine ⟨{ key := kv k, val := vz, born := cl }, ?_, rfl, hdz.step hst⟩
            rw [hl, List.length_map, ← m2]
            simp) rfl
      refine ⟨_, M, ?_, r1, r2, ⟨Nat.le_of_eq hr.heap.len.symm, fun _ _ => rfl⟩⟩
      simp [Instr.mapUpdate, run_underlying u1, MapKept.run_getObj_map m1, hc, hf, MapKept.run_setObj_map _ m1]
    | some j =>
      rw [hi] at hf
      have hj : j < m.length := (List.findIdx?_eq_some_iff_getElem.1 hi).1
      have hkj : (k == (m[j]).1) = true := (List.findIdx?_eq_some_iff_getElem.1 hi).2.1
      obtain ⟨e, f1, f2, f3⟩ := m4 j _ (List.getElem?_eq_getElem hj)
      simp only [Option.bind_some, f1, Option.map_some] at hf
      have hset : mSet m k v = m.set j (k, v) := by unfold mSet; rw [hi]
      rw [hset]
      have hjs := (Array.getElem?_eq_some_iff.1 f1).1
      have hbits : Instr.sameBits 10000 e.key (kv k) = true := by rw [f2]; exact hK.bits k _ hkj
      obtain ⟨r1, r2⟩ := put_ob (o' := mOb kv agg enc (m.set j (k, v))) (ob' := .map (ms.modify j fun e => { e with key := kv k, val := vz }) cl) hr.heap ho rfl hM (fun w' hst hh => by
        have hget : ∀ (i : Nat) (e' : MapEntry), (ms.modify j fun e => { e with key := kv k, val := vz })[i]? = some e' → ∃ e0, ms[i]? = some e0 ∧ e'.born = e0.born := fun i e' h => by
          rw [Array.getElem?_modify] at h
          split at h
          · obtain ⟨e0, h0, rfl⟩ := Option.map_eq_some_iff.1 h
            exact ⟨e0, h0, rfl⟩
          · exact ⟨e', h, rfl⟩
        refine ⟨_, _, hh, by simp [m2], ⟨fun i i' e1 e2 h1 h2 hb => ?_, fun i e1 h1 => ?_⟩, fun i k' ds h => ?_⟩
        · obtain ⟨a1, b1, c1⟩ := hget i e1 h1
          obtain ⟨a2, b2, c2⟩ := hget i' e2 h2
          exact m3.1 i i' a1 a2 b1 b2 (by rw [← c1, ← c2]; exact hb)
        · obtain ⟨a1, b1, c1⟩ := hget i e1 h1
          rw [c1]; exact m3.2 i a1 b1
        · rw [List.getElem?_map] at h
          obtain ⟨x, hx, he⟩ := Option.map_eq_some_iff.1 h
          simp only [Prod.mk.injEq] at he
          obtain ⟨rfl, rfl⟩ := he
          by_cases hij : j = i
          · subst hij
            rw [List.getElem?_set_self hj] at hx
            cases hx
            exact ⟨{ e with key := kv k, val := vz }, by rw [Array.getElem?_modify, if_pos rfl, f1]; rfl, rfl, hdz.step hst⟩
          · rw [List.getElem?_set_ne hij] at hx
            obtain ⟨e1, g1, g2, g3⟩ := m4 i x hx
            exact ⟨e1, by rw [Array.getElem?_modify, if_neg hij]; exact g1, g2, g3.step hst⟩) rfl
      refine ⟨_, M, ?_, r1, r2, ⟨Nat.le_of_eq hr.heap.len.symm, fun _ _ => rfl⟩⟩
      simp [Instr.mapUpdate, run_underlying u1, MapKept.run_getObj_map m1, hc, hf, MapKept.run_setObj_map _ m1, f1, Instr.keyThatStays, hbits]
/-- A condition that is a constant. -/
theorem j_condK {b : Bool} {x y : Code} (h : St.holds P F N Q (.code (bif b then x else y) ks) fr hp) : St.holds P F N Q (.code (.cond (.const (.bool b)) x y) ks) fr hp := by
  intro Z w0 O0 M0 w M a hs ha hr
  have hev : a.eval (.const (.bool b)) = .bool b := rfl
  cases b with
  | true => exact wp_cond_split hev (fun _ => h Z w0 O0 M0 w M a hs ha hr) (fun e => by cases e)
  | false => exact wp_cond_split hev (fun e => by cases e) (fun _ => h Z w0 O0 M0 w M a hs ha hr)
/-- A number that becomes a string. -/
def runeS (n : Int) : List UInt8 := (Utf8.encode n).data.toList
theorem op_runeS (hΓ : TOK P Γ) {t t' : TypeId} {i1 i2 : TI} {x : Operand} {kd : IntKind} {n : Int} (h1 : Γ t = some i1) (h1' : i1.desc = .int kd) (h2 : Γ t' = some i2) (h2' : i2.desc = .string) (hx : fr.ev x = some (.d (.v (.int kd n)))) :
    OpP P N ⟨some d, .convert t t' x, ty, pos, after, gd⟩ fr hp (.d (.v (.string ⟨(runeS n).toArray⟩))) := fun Z w M a hr => by
  obtain ⟨u1, _⟩ := hΓ t _ h1
  rw [h1'] at u1
  obtain ⟨u2, _⟩ := hΓ t' _ h2
  rw [h2'] at u2
  simp only [execOp, hr.ev_v hx]
  have e : (⟨(runeS n).toArray⟩ : ByteArray) = Utf8.encode n := by simp [runeS]
  refine ⟨.string (Utf8.encode n), ?_, by rw [e]; exact .d (.v _ rfl)⟩
  simp [convert, run_underlying u1, run_underlying u2, Conv.intToString, asInt]
end
end Go.Gk
namespace Go.Gk
def Slf {α : Type} (enc : α → List D) (l : List α) : D := .rf l.length (l.flatMap enc)
theorem VD.unrf {w : World} {O : Nat → Prop} {n : Nat} {xs : List D} {v : Value} (h : VD w O (.rf n xs) v) : VD w O (.ro n xs) v := by
  cases h with
  | rf _ _ b off vs hb hO hm hc hv => exact .ro n xs b off n vs hb hO (Nat.le_refl _) hm hc hv
/-- The one says less than the other. -/
inductive D.Le : D → D → Prop
  | refl (d : D) : D.Le d d
  | rf (n : Nat) (xs : List D) : D.Le (.rf n xs) (.ro n xs)
theorem D.Le.vd {w : World} {O : Nat → Prop} {d d' : D} {v : Value} (h : D.Le d d') (hv : VD w O d v) : VD w O d' v := by
  cases h with
  | refl => exact hv
  | rf n xs => exact hv.unrf
def Ds.Le : List D → List D → Prop
  | [], [] => True
  | d :: r, d' :: r' => D.Le d d' ∧ Ds.Le r r'
  | _, _ => False
theorem Ds.Le.get : ∀ {l l' : List D}, Ds.Le l l' → l.length = l'.length ∧ ∀ (j : Nat) (d' : D), l'[j]? = some d' → ∃ d, l[j]? = some d ∧ D.Le d d'
  | [], [], _ => ⟨rfl, fun j d' h => by simp at h⟩
  | d :: r, d' :: r', h => by
    obtain ⟨h1, h2⟩ := Ds.Le.get h.2
    refine ⟨by simp [h1], fun j x hx => ?_⟩
    cases j with
    | zero => simp at hx; subst hx; exact ⟨d, rfl, h.1⟩
    | succ j => simpa using h2 j x (by simpa using hx)
  | [], _ :: _, h => h.elim
  | _ :: _, [], h => h.elim
theorem Ds.Le.app : ∀ {a a' b b' : List D}, Ds.Le a a' → Ds.Le b b' → Ds.Le (a ++ b) (a' ++ b')
  | [], [], _, _, _, h => h
  | _ :: _, _ :: _, _, _, h1, h2 => ⟨h1.1, Ds.Le.app h1.2 h2⟩
  | [], _ :: _, _, _, h, _ => h.elim
  | _ :: _, [], _, _, h, _ => h.elim
theorem Ds.Le.flat {α : Type} {e e' : α → List D} (h : ∀ x, Ds.Le (e x) (e' x)) : ∀ l : List α, Ds.Le (l.flatMap e) (l.flatMap e')
  | [] => trivial
  | x :: l => by simp only [List.flatMap_cons]; exact (h x).app (Ds.Le.flat h l)
section
variable {P : Program} {Γ : TypeId → Option TI} {F N : Nat} {Q : GPost} {fr fr' : Fr} {hp hp' : List Ob} {ks : List Kt}
variable {α : Type} {enc enc' : α → List D} {ops : Array Oper} {rest : List Oper} {g : G}
variable {d : Tmp} {op : Op} {ty : TypeId} {pos : String} {after : Array Edge} {gd : Option (Nat × Bool)}

/-- A SLICE LITERAL is full. -/
theorem ops_litF (hΓ : TOK P Γ) {t e : TypeId} {len : Nat} {i1 i2 : TI} {parts : Array (Nat × Operand)} {pg : List (Nat × G)} {gs : List G} {ds : List D} (h1 : Γ t = some i1) (h1' : i1.desc = .slice e) (h2 : Γ e = some i2)
    (hz : (i2.zero.cells.toList.all (·.oneCell')) = true) (hz' : Nat.blt 0 i2.zero.cells.size = true) (hlen : Nat.ble (len * i2.size) 16777216 = true) (hlen' : Nat.ble len 16777216 = true) (hp' : evParts fr parts.toList = some pg) (hf : fillG (fun i => some (i * i2.size, i2.size)) (zerosG i2 len) pg = some gs) (hds : toDs gs = some ds) :
    OpS P N ⟨some d, .buildSlice t len parts, ty, pos, after, gd⟩ fr hp (.d (.rf len ds)) hp := fun Z w M a hr => by
  obtain ⟨cs, r1, r2, r3, r4⟩ := run_buildSlice hΓ hr h1 h1' h2 hz hz' hlen hp' hf
  obtain ⟨f1, f2, f3⟩ := free_ok hr.heap (.cells cs e)
  have hgs := toDs_eq hds
  have hlen'' : len ≤ maxLen := by have := Nat.le_of_ble_eq_true hlen'; simp only [maxLen]; omega
  refine ⟨_, _, M, by simp [execOp, r1]; rfl, f1, ?_, f2, ⟨by rw [hr.heap.len]; exact Nat.le_refl _, fun _ _ => rfl⟩⟩
  have hb := heap_alloc_new w (.cells cs e)
  have hrd : ∀ j dd, ds[j]? = some dd → ∃ v, cs[j]? = some v ∧ VD w (ownZ Z hp M) dd v := fun j dd hj => by
    obtain ⟨v, e1, e2, e3⟩ := r4 j (.d dd) (by rw [hgs, List.getElem?_map, hj]; rfl)
    cases e3 with
    | d h => exact ⟨v, e1, h⟩
  refine .d (.rf len ds w.heap.size 0 (fun j => cs.getD j undef) (by simp) f3 hlen'' (fun j dd hj => ?_) (fun j dd hj => ?_))
  · obtain ⟨v, e1, _⟩ := hrd j dd hj
    rw [Nat.zero_add, cell_of_row _ _ j cs _ _ hb]
    simp [e1]
  · obtain ⟨v, e1, e2⟩ := hrd j dd hj
    simpa [e1] using e2.step (stp_z Z f2)
theorem ops_litFT (hΓ : TOK P Γ) {t e : TypeId} {len : Nat} {i1 i2 : TI} {parts : Array (Nat × Operand)} {pg : List (Nat × G)} {gs : List G} (l : List α) (h1 : Γ t = some i1) (h1' : i1.desc = .slice e) (h2 : Γ e = some i2)
    (hz : (i2.zero.cells.toList.all (·.oneCell')) = true) (hz' : Nat.blt 0 i2.zero.cells.size = true) (hlen : Nat.ble (len * i2.size) 16777216 = true) (hlen' : Nat.ble len 16777216 = true) (hp' : evParts fr parts.toList = some pg) (hf : fillG (fun i => some (i * i2.size, i2.size)) (zerosG i2 len) pg = some gs) (hds : toDs gs = some (l.flatMap enc)) (hlq : len = l.length) :
    OpS P N ⟨some d, .buildSlice t len parts, ty, pos, after, gd⟩ fr hp (.d (Slf enc l)) hp := by
  subst hlq
  exact ops_litF hΓ h1 h1' h2 hz hz' hlen hlen' hp' hf hds

/-- APPEND to a full slice: what comes out is data. -/
theorem ops_appendF (hΓ : TOK P Γ) {t te : TypeId} {i1 i2 : TI} {x y : Operand} {n m : Nat} {ds ys : List D} (h1 : Γ t = some i1) (h1' : i1.desc = .slice te) (h2 : Γ te = some i2) (hz : Nat.beq i2.zero.cells.size i2.size = true) (hz0 : Nat.blt 0 i2.size = true)
    (hx : fr.ev x = some (.d (.rf n ds))) (hdl : ds.length = n * i2.size) (hy : fr.ev y = some (.d (.ro m ys))) (hl : ys.length = m * i2.size) (hb : (n + m) * i2.bytes ≤ 140737488355328) (hm : n + m ≤ maxLen) (hm0 : 0 < m) :
    OpS P N ⟨some d, .call ⟨.builtin .append, #[x, y], #[t, t]⟩, ty, pos, after, gd⟩ fr hp (.d (.ro (n + m) (ds ++ ys))) hp := by
  intro Z w M a hr
  obtain ⟨u1, _⟩ := hΓ t _ h1
  rw [h1'] at u1
  obtain ⟨_, inf, e1, e2, e3, e4⟩ := hΓ te _ h2
  have hzs : i2.zero.cells.size = inf.size := by rw [e2]; exact Nat.eq_of_beq_eq_true hz
  have hvx := hr.ev hx
  have hvy := hr.ev hy
  have hsrc : ∃ (news : List Value) (xb xo xc : Nat), a.eval y = .slice (some ⟨xb, xo, none⟩) m xc ∧ (∀ (j : Nat) (u : Value), news[j]? = some u → w.cell? ⟨xb, xo + j, none⟩ = some u) ∧
      news.length = ys.length ∧ (∀ (j : Nat) (u : Value) (d : D), news[j]? = some u → ys[j]? = some d → VD w (ownZ Z hp M) d u) := by
    cases hvy with
    | d hd =>
      rcases data_cells hd with ⟨e, rfl, rfl⟩ | ⟨b, off, cap, vs, e, hl, hc, hv, h1⟩
      · omega
      · exact ⟨vs, b, off, cap, e, hc, hl, hv⟩
  obtain ⟨news, xb, xo, xc, hsrc1, hsrcc, hsrc2, hsrc3⟩ := hsrc
  generalize hvv : a.eval x = vx at hvx
  cases hvx with
  | d hvx =>
  obtain ⟨b, off, olds, rfl, holl, holc, holv⟩ : ∃ (b off : Nat) (olds : List Value), vx = .slice (some ⟨b, off, none⟩) n n ∧ olds.length = ds.length ∧ (∀ (j : Nat) (u : Value), olds[j]? = some u → w.cell? ⟨b, off + j, none⟩ = some u) ∧ ∀ (j : Nat) (u : Value) (d : D), olds[j]? = some u → ds[j]? = some d → VD w (ownZ Z hp M) d u := by
    cases hvx with
    | rf _ _ b off vs hb hO hm hc hv =>
      refine ⟨b, off, (List.range ds.length).map vs, rfl, by simp, fun j u hj => ?_, fun j u d hj hd => ?_⟩
      · rw [List.getElem?_map] at hj
        obtain ⟨i, hi, rfl⟩ := Option.map_eq_some_iff.1 hj
        have hlt : j < ds.length := by simpa using (List.getElem?_eq_some_iff.1 hi).1
        have : i = j := by simpa [List.getElem?_range hlt] using hi.symm
        subst this
        exact hc i _ (List.getElem?_eq_getElem hlt)
      · rw [List.getElem?_map] at hj
        obtain ⟨i, hi, rfl⟩ := Option.map_eq_some_iff.1 hj
        have hlt : j < ds.length := by simpa using (List.getElem?_eq_some_iff.1 hi).1
        have : i = j := by simpa [List.getElem?_range hlt] using hi.symm
        subst this
        exact hv i d hd
  obtain ⟨v', w', r1, r2, r3⟩ := run_append_arg_grows (P := P) w t ty te inf i2.zero inf.size inf.bytes u1 e1 e4 rfl rfl hzs (by rw [e2]; exact nblt.1 hz0) ⟨b, off, none⟩ n n olds (by rw [holl, hdl, e2]) (fun j u hj => by rw [Addr.add_lit]; exact holc j u hj) ⟨xb, xo, none⟩ m xc news (by rw [hsrc2, hl, e2]) (fun j u hj => by rw [Addr.add_lit]; exact hsrcc j u hj) (by omega) hm (by rw [e3]; exact hb)
  rcases r2.2 with ⟨rfl, hn0⟩ | ⟨gb, c', cur, rfl, q1, q2, q3, q4, q5, q6⟩
  · omega
  · have hglt : gb < w'.heap.size := (Array.getElem?_eq_some_iff.1 q2).1
    have hcells := r2.cells (g := gb) rfl
    have hst : Stp w (own hp M) w' (own hp M) := ⟨r3.size, fun k hk _ => r3.block k hk (by simp), fun b _ h => h, r3.os, r3.tape, r3.output⟩
    have hr' : RelH Z hp M w' := ⟨hr.heap.len, fun i o m' h1 h2 => by
      have hob := hr.heap.obj i o m' h1 h2
      exact hob.move (k := M.length) (stp_z Z hst) (fun _ _ => rfl) hob.bel fun b2 c2 e hl2 => by
        subst e
        exact r3.block b2 (hr.heap.block_lt ⟨i, o, c2, h1, hl2, h2⟩) (by simp), hr.heap.apart, fun b hz => Nat.lt_of_lt_of_le (hr.heap.old b hz) r3.size, hr.heap.amb_stp hst, hr.heap.inj⟩
    have hfree : ¬ ownZ Z hp M gb := by
      rintro (h | h)
      · have := hr.heap.block_lt h; omega
      · have := hr.heap.old _ (Z.hv _ h); omega
    refine ⟨.slice (some ⟨gb, 0, none⟩) (n + m) c', w', M, ?_, hr', ?_, hst, ⟨Nat.le_of_eq hr.heap.len.symm, fun _ _ => rfl⟩⟩
    · simp [execOp, resolve, invoke, builtin, hvv, hsrc1, r1]
    · refine .d (.ro _ _ gb 0 c' (fun j => ((olds ++ news)[j]?).getD default) hglt hfree q3 q4 (fun j dd hj => ?_) (fun j dd hj => ?_))
      all_goals
        have hjl : j < (olds ++ news).length := by
          have := (List.getElem?_eq_some_iff.1 hj).1
          rw [List.length_append] at this ⊢
          rw [holl, hsrc2]; exact this
      · have := hcells j _ (List.getElem?_eq_getElem hjl)
        rw [Addr.add_lit] at this
        rw [this, List.getElem?_eq_getElem hjl]; rfl
      · simp only [List.getElem?_eq_getElem hjl, Option.getD_some]
        have hu := List.getElem?_eq_getElem hjl
        by_cases hjo : j < olds.length
        · rw [List.getElem?_append_left hjo] at hu
          rw [List.getElem?_append_left (by rw [← holl]; exact hjo)] at hj
          exact (holv j _ dd hu hj).step (stp_z Z hst)
        · rw [List.getElem?_append_right (by omega)] at hu
          rw [List.getElem?_append_right (by rw [← holl]; omega), ← holl] at hj
          exact (hsrc3 _ _ dd hu hj).step (stp_z Z hst)
theorem ops_appendFT (hΓ : TOK P Γ) {t te : TypeId} {i1 i2 : TI} {x y : Operand} {l m r : List α} (hz : apd l m = some r) (h1 : Γ t = some i1) (h1' : i1.desc = .slice te) (h2 : Γ te = some i2) (hzc : Nat.beq i2.zero.cells.size i2.size = true) (hz0 : Nat.blt 0 i2.size = true)
    (hx : fr.ev x = some (.d (Slf enc l))) (hy : fr.ev y = some (.d (Sl enc m))) (henc : ∀ y, (enc y).length = i2.size) (hbytes : Nat.ble (4294967296 * i2.bytes) 140737488355328 = true) (hm0 : Nat.blt 0 m.length = true) :
    OpS P N ⟨some d, .call ⟨.builtin .append, #[x, y], #[t, t]⟩, ty, pos, after, gd⟩ fr hp (.d (Sl enc r)) hp := by
  obtain ⟨rfl, hle⟩ := apd_ok hz
  have hb := Nat.le_of_ble_eq_true hbytes
  have hmul : (l.length + m.length) * i2.bytes ≤ 4294967296 * i2.bytes := Nat.mul_le_mul_right _ hle
  have k := ops_appendF (P := P) (N := N) (d := d) (ty := ty) (pos := pos) (after := after) (gd := gd) (hp := hp) hΓ h1 h1' h2 hzc hz0 hx (flat_len henc l) hy (flat_len henc m) (by omega) (by simp only [maxLen]; omega) (nblt.1 hm0)
  unfold Sl
  rw [List.length_append, List.flatMap_append]
  exact k

/-- A part of an element of a row, set anew. -/
theorem opu_storeRowZ (hΓ : TOK P Γ) {t tb : TypeId} {x y : Operand} {i : TI} {id off sz : Nat} {l : List α} {z z' : α} {nd : List D} {new : List G} {hp2 : List Ob} (j fo : Nat) (hz : l[j]? = some z) (hi : Γ t = some i) (hx : fr.ev x = some (.ptr id off)) (hoff : off = j * sz + fo) (ho : hp[id]? = some (.row tb sz l.length (l.flatMap enc)))
    (henc : ∀ y, (enc y).length = sz) (hy : fr.ev y = some g) (hg : cellsG g = some new) (hnd : toDs new = some nd) (he : enc z' = setAt (enc z) fo nd)
    (hsz : Nat.beq new.length i.size = true) (hfit : Nat.ble (fo + nd.length) sz = true) (hhp : hp.set id (.row tb sz (l.set j z').length ((l.set j z').flatMap enc)) = hp2) : OpU P N ⟨none, .store t x y, ty, pos, after, gd⟩ fr hp hp2 := by
  subst hhp
  have hlt := (List.getElem?_eq_some_iff.1 hz).1
  have hf := Nat.le_of_ble_eq_true hfit
  have hfl := flat_len henc l
  have hle : (j + 1) * sz ≤ l.length * sz := Nat.mul_le_mul_right _ hlt
  rw [Nat.add_mul] at hle
  have := opu_storeRow (P := P) (N := N) (ty := ty) (pos := pos) (after := after) (gd' := gd) hΓ hi hx ho hy hg hnd hsz (by rw [hfl, hoff]; omega)
  rw [flat_set henc hz hf he, List.length_set, ← hoff]
  exact this

/-- A row's cells say less. -/
theorem gh_wkRow {te : TypeId} {sz n : Nat} {ds : List D} (id : Nat) (ds' : List D) (ho : hp[id]? = some (.row te sz n ds)) (hle : Ds.Le ds ds') : ∀ Z w M a, Rel Z hp M w fr a N → ∃ M', Rel Z (hp.set id (.row te sz n ds')) M' w fr a N ∧ Stp w (own hp M) w (own (hp.set id (.row te sz n ds')) M') ∧ Agr hp.length M M' := by
  intro Z w M a hr
  have hid : id < hp.length := (List.getElem?_eq_some_iff.1 ho).1
  have hcase : ∀ (i : Nat) (o' : Ob), (hp.set id (.row te sz n ds'))[i]? = some o' → (i ≠ id ∧ hp[i]? = some o') ∨ (i = id ∧ o' = .row te sz n ds') := fun i o' h => by
    by_cases hii : i = id
    · subst hii; simp [hid] at h; exact .inr ⟨rfl, h.symm⟩
    · rw [List.getElem?_set_ne (Ne.symm hii)] at h; exact .inl ⟨hii, h⟩
  have hown : ∀ b, own (hp.set id (.row te sz n ds')) M b → own hp M b := by
    rintro b ⟨i, o, c, h1, h2, h3⟩
    rcases hcase i o h1 with ⟨_, h4⟩ | ⟨rfl, rfl⟩
    · exact ⟨i, o, c, h4, h2, h3⟩
    · exact ⟨i, _, c, ho, rfl, h3⟩
  have hst : Stp w (own hp M) w (own (hp.set id (.row te sz n ds')) M) := ⟨Nat.le_refl _, fun _ _ _ => rfl, fun b _ h => hown b h, rfl, rfl, rfl⟩
  obtain ⟨hl, hg⟩ := hle.get
  refine ⟨M, ⟨⟨by simp [hr.heap.len], fun i o m h1 h2 => ?_, fun b hb hz => hr.heap.apart b (hown b hb) hz, hr.heap.old, hr.heap.amb, fun i j oi oj b c c' hi hj li lj mi mj => ?_⟩, fun t g h => ?_, hr.size, hr.defers⟩, hst, ⟨Nat.le_of_eq hr.heap.len.symm, fun _ _ => rfl⟩⟩
  · rcases hcase i o h1 with ⟨_, h4⟩ | ⟨rfl, rfl⟩
    · have hob := hr.heap.obj i o m h4 h2
      exact hob.move (k := M.length) (stp_z Z hst) (fun _ _ => rfl) hob.bel fun _ _ _ _ => rfl
    · have hob := hr.heap.obj _ _ m ho h2
      match m, hob with
      | some (b, c), ⟨h0, cs, g1, g2, g3, g4, g5⟩ =>
        refine ⟨by rw [← hl]; exact h0, cs, g1, g2, g3, g4, fun j d' hd => ?_⟩
        obtain ⟨d0, e1, e2⟩ := hg j d' hd
        obtain ⟨v, f1, f2⟩ := g5 j d0 e1
        exact ⟨v, f1, (e2.vd f2).step (stp_z Z hst)⟩
      | none, ⟨q1, q2⟩ => exact ⟨List.eq_nil_of_length_eq_zero (by rw [← hl, q1]; rfl), q2⟩
  · have key : ∀ (i : Nat) (oi : Ob), (hp.set id (.row te sz n ds'))[i]? = some oi → oi.live = true → ∃ oi' : Ob, hp[i]? = some oi' ∧ oi'.live = true := fun i oi e1 l1 => by
      rcases hcase i oi e1 with ⟨_, h4⟩ | ⟨rfl, rfl⟩
      · exact ⟨oi, h4, l1⟩
      · exact ⟨_, ho, rfl⟩
    obtain ⟨oi', f1, f2⟩ := key i oi hi li
    obtain ⟨oj', f3, f4⟩ := key j oj hj lj
    exact hr.heap.inj i j oi' oj' b c c' f1 f3 f2 f4 mi mj
  · obtain ⟨v, e1, e2⟩ := hr.fr t g h
    exact ⟨v, e1, e2.step (stp_z Z hst) (fun _ _ => rfl)⟩
theorem opu_wk {o : Oper} {te : TypeId} {sz : Nat} {xs : List α} (enc' : α → List D) (id : Nat) (ho : hp[id]? = some (.row te sz xs.length (xs.flatMap enc))) (hle : ∀ x, Ds.Le (enc x) (enc' x)) (h : OpU P N o fr (hp.set id (.row te sz xs.length (xs.flatMap enc'))) hp') : OpU P N o fr hp hp' := by
  intro Z w M a hr
  obtain ⟨M1, h1, h2, h3⟩ := gh_wkRow id _ ho (Ds.Le.flat hle xs) Z w M a hr
  obtain ⟨w', M', hrun, k1, k2, k3⟩ := h Z w M1 a h1
  exact ⟨w', M', hrun, k1, h2.trans k2, h3.trans k3 (by simp)⟩
theorem eo_wkRow {l : List Oper} {te : TypeId} {sz : Nat} {xs : List α} (id : Nat) (hp2 : List Ob) (ho : hp[id]? = some (.row te sz xs.length (xs.flatMap enc))) (hle : ∀ x, Ds.Le (enc x) (enc' x)) (h2 : hp.set id (.row te sz xs.length (xs.flatMap enc')) = hp2) (hF : F ≤ hp.length) (k : EO P F N ops l Q fr hp2) : EO P F N ops l Q fr hp := by
  subst h2
  exact eo_ghost hF (gh_wkRow id _ ho (Ds.Le.flat hle xs)) k
theorem j_wkRow {c : Code} {te : TypeId} {sz : Nat} {xs : List α} (id : Nat) (hp2 : List Ob) (ho : hp[id]? = some (.row te sz xs.length (xs.flatMap enc))) (hle : ∀ x, Ds.Le (enc x) (enc' x)) (h2 : hp.set id (.row te sz xs.length (xs.flatMap enc')) = hp2) (hF : F ≤ hp.length)
    (k : St.holds P F N Q (.code c ks) fr hp2) : St.holds P F N Q (.code c ks) fr hp := by
  subst h2
  exact ew_ghost (Q := stk P F N Q ks) hF (gh_wkRow id _ ho (Ds.Le.flat hle xs)) k
theorem cv_wkRow {M : Fr → List Ob → Prop} {te : TypeId} {sz : Nat} {xs : List α} (id : Nat) (hp2 : List Ob) (ho : hp[id]? = some (.row te sz xs.length (xs.flatMap enc))) (hle : ∀ x, Ds.Le (enc x) (enc' x)) (h2 : hp.set id (.row te sz xs.length (xs.flatMap enc')) = hp2) (hF : F ≤ hp.length)
    (k : Cv F N M fr hp2) : Cv F N M fr hp := by
  subst h2
  exact cv_ghost hF (gh_wkRow id _ ho (Ds.Le.flat hle xs)) k
end
end Go.Gk
