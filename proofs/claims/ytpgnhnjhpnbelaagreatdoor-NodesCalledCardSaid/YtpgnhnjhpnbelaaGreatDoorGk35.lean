/-
  THE GHOST LOGIC, PART 35: arrays; bytes that become strings.
-/
import Derived.Test.YtpgnhnjhpnbelaaGreatDoorGk34
set_option linter.unusedVariables false
set_option linter.unusedSimpArgs false
namespace Go.Gk
section
variable {P : Program} {Γ : TypeId → Option TI} {F N : Nat} {Q : GPost} {fr fr' : Fr} {hp hp' : List Ob} {ks : List Kt}
variable {α : Type} {enc : α → List D} {ops : Array Oper} {rest : List Oper} {g : G}
variable {d : Tmp} {op : Op} {ty : TypeId} {pos : String} {after : Array Edge} {gd : Option (Nat × Bool)}
/-- An element of an array that is data. -/
theorem op_indexArrZ (hΓ : TOK P Γ) {t e : TypeId} {n : Nat} {i1 i2 : TI} {x y : Operand} {gs : List G} (l : List α) {z : α} {kd : IntKind} {k : Int} (hz : getZ l k = some z) (h1 : Γ t = some i1) (h1' : i1.desc = .array n e) (h2 : Γ e = some i2)
    (hx : fr.ev x = some (.agg gs)) (hgs : gs = (l.flatMap enc).map G.d) (hn : n = l.length) (hy : fr.ev y = some (.d (.v (.int kd k)))) (henc : ∀ y, (enc y).length = i2.size)
    (hg : (bif TypeDesc.isAgg i2.desc then some (.agg ((enc z).map G.d)) else ((enc z).head?).map G.d) = some g) : OpP P N ⟨some d, .index t x y, ty, pos, after, gd⟩ fr hp g := fun Z w M a hr => by
  obtain ⟨i, rfl, hi, hz'⟩ := getZ_ok hz
  subst hgs
  obtain ⟨u1, _⟩ := hΓ t _ h1
  rw [h1'] at u1
  have hs := run_size' (P := P) (w := w) hΓ h2
  have hvx := hr.ev hx
  simp only [execOp, hr.ev_v hy]
  generalize a.eval x = vx at hvx
  have hdrop : (l.flatMap enc).drop (i * i2.size) = enc z ++ (l.drop (i + 1)).flatMap enc := by
    rw [← flat_drop henc, List.drop_eq_getElem_cons hi, List.flatMap_cons]
    have : l[i] = z := by rw [List.getElem?_eq_getElem hi] at hz'; exact Option.some.inj hz'
    rw [this]
  have hpart : partG i2 ((l.flatMap enc).map G.d) (i * i2.size) = some g := by
    unfold partG
    cases hb : TypeDesc.isAgg i2.desc with
    | true =>
      rw [hb] at hg
      simp only [cond_true] at hg ⊢
      rw [← hg, ← List.map_drop, hdrop, List.map_append, List.take_append_of_le_length (by simp [henc]), List.take_of_length_le (by simp [henc])]
    | false =>
      rw [hb] at hg
      simp only [cond_false] at hg ⊢
      rw [← List.map_drop, hdrop]
      cases hen : enc z with
      | nil => rw [hen] at hg; cases hg
      | cons c cs => rw [hen] at hg; exact hg
  have hin : i < n := by omega
  cases hvx with
  | agg hl hr' =>
    obtain ⟨v, e1, e2⟩ := part_ok (w := w) (hp := hp) (M := M) (Z := Z) hΓ h2 (VR.agg hl hr') hpart
    refine ⟨v, ?_, e2⟩
    have : (0 : Int) ≤ (i : Int) ∧ (i : Int) < (n : Int) := by omega
    simp [Instr.index, asIntOf, run_underlying u1, hs, this, e1, hin]
/-- AN ARRAY LITERAL. -/
theorem op_buildA (hΓ : TOK P Γ) {t e : TypeId} {n : Nat} {i1 i2 : TI} {parts : Array (Nat × Operand)} {pg : List (Nat × G)} {gs : List G} (h1 : Γ t = some i1) (h1' : i1.desc = .array n e) (h2 : Γ e = some i2)
    (hz : (i1.zero.cells.toList.all (·.oneCell')) = true) (hp' : evParts fr parts.toList = some pg) (hf : fillG (fun i => some (i * i2.size, i2.size)) (zeroG i1) pg = some gs)
    : OpP P N ⟨some d, .build t parts, ty, pos, after, gd⟩ fr hp (.agg gs) := by
  intro Z w M a hr
  obtain ⟨u1, inf, e1, e2, e3, e4⟩ := hΓ t _ h1
  rw [h1'] at u1
  have hs := run_size' (P := P) (w := w) hΓ h2
  obtain ⟨cs', r1, r2, r3, r4⟩ := fill_ok (place := fun i => some (i * i2.size, i2.size)) (cs := i1.zero.cells) hr parts.toList hp' hf (by simp [zeroG]) (fun j g hj => by
    simp only [zeroG, List.getElem?_map] at hj
    obtain ⟨c, hc, rfl⟩ := Option.map_eq_some_iff.1 hj
    exact ⟨c, by simpa using hc, List.all_eq_true.1 hz c (List.mem_of_getElem? hc), .d (vd_nilD c (List.all_eq_true.1 hz c (List.mem_of_getElem? hc)))⟩)
  refine ⟨.agg cs', ?_, .agg r2 fun j g v hg hv => ?_⟩
  · simp [execOp, Instr.build, zeroValue, typeInfo, e1, e4, run_underlying u1, hs]
    simp [r1]
  · obtain ⟨v', f1, f2, f3⟩ := r4 j g hg
    rw [hv] at f1
    cases f1
    exact f3
end
end Go.Gk
