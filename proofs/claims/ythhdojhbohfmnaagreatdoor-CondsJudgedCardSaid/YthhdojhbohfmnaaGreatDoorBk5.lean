/-
  Loops over slices.Backward: the contract of posture's records in the ghost logic.
-/
import Derived.Test.YthhdojhbohfmnaaGreatDoorBk4
set_option linter.unusedVariables false
set_option linter.unusedSimpArgs false
namespace Go.Proofs.YthhdojhbohfmnaaGreatDoor
open Go.RowKit Go.Shelf Go.Gk
/-- A look-up in a map of slices with tags, whatever else has changed. -/
theorem Kau {P : Program} {Γ : TypeId → Option TI} (hΓ : TOK P Γ) {K V : Type} [BEq K] [KLt K] {kenc : K → List D} {enc : V → List D} {te : TypeId} {sz : Nat} {t kt et : TypeId} {i1 i3 : TI} (m : List (K × Tl V)) (k : K) (h1 : Γ t = some i1) (h1' : i1.desc = .map kt et) (h3 : Γ et = some i3) (hK : KeyP P kt (kD kenc)) (hz : i3.zero = .slice none 0 0)
    {w : World} {O : Ow} {b cl : Nat} {m' : List (K × Tl V)} {st} {ms : Array MapEntry} (hA : MapAt w O (kD kenc) false (eT te sz enc) b m m' st ms cl) :
    ∃ v, VD w O (Slt te sz enc ((mGet m k).getD (1, []))) v ∧ ∀ W : World, W.heap[b]? = w.heap[b]? → (Instr.lookup t (.map (some b)) (kD kenc k) false).run P W = .ok v W := by
  obtain ⟨u1, _⟩ := hΓ t _ h1
  rw [h1'] at u1
  obtain ⟨u3, inf, e1, e2, e3, e4⟩ := hΓ et _ h3
  have m4 := hA.get
  have hf : ∀ W : World, (Instr.findKey kt (kD kenc k) ms.toList).run P W = .ok ((m'.findIdx? fun e => k == e.1).bind fun j => (ms[j]?).map fun e => (j, e.val)) W := fun W => by
    have := hK.find W k ms.toList (m'.map (·.1)) (by simpa using hA.size) (fun j e x he hx => by
      rw [List.getElem?_map] at hx
      obtain ⟨y, hy, rfl⟩ := Option.map_eq_some_iff.1 hx
      obtain ⟨e', e1, e2, _⟩ := hA.get j y hy
      have : e = e' := by
        have he' : ms[j]? = some e := by simpa using he
        rw [e1] at he'; exact (Option.some.inj he').symm
      rw [this]; exact e2)
    rw [this, List.findIdx?_map]
    congr 2
    funext j
    simp
  have hc : ∀ W : World, (Instr.checkKey ms.isEmpty 10000 kt (kD kenc k)).run P W = .ok () W := fun W => hK.check W ms.isEmpty k
  have hg : mGet m' k = mGet m k := Koe hK.eq hA.perm hA.apart k
  rw [← hg, Kmy]
  cases hi : m'.findIdx? fun e => k == e.1 with
  | none =>
    rw [hi] at hf
    simp only [Option.bind_none, Option.getD_none] at hf ⊢
    refine ⟨i3.zero, by rw [hz]; exact .rt te sz 1 0 [] _ .nil ⟨none, rfl, fun _ => rfl⟩, fun W hW => ?_⟩
    simp [Instr.lookup, run_underlying u1, MapKept.run_getObj_map (hW.trans hA.heap), hc, hf, zeroValue, typeInfo, e1, e4]
  | some j =>
    rw [hi] at hf
    have hj : j < m'.length := (List.findIdx?_eq_some_iff_getElem.1 hi).1
    obtain ⟨e, f1, f2, f3⟩ := m4 j _ (List.getElem?_eq_getElem hj)
    simp only [Option.bind_some, f1, List.getElem?_eq_getElem hj, Option.map_some, Option.getD_some] at hf ⊢
    obtain ⟨d, hd, hdv⟩ := f3
    have hd' : d = Slt te sz enc m'[j].2 := by cases hd; rfl
    subst hd'
    refine ⟨e.val, hdv, fun W hW => ?_⟩
    simp [Instr.lookup, run_underlying u1, MapKept.run_getObj_map (hW.trans hA.heap), hc, hf]
theorem Kat {v_r : Ldb} {node : Str} {name : Str} {v_at : Int} {r : Lcv × Bool} (h : Ley v_r node name v_at = some r) : EC Tryz.prog 120 [.ptr 1 0, S node, S name, I v_at] [mOb (kD Lcp) false (eT 83 10 Lcn) v_r.list, .box 240 [I v_r.fresh, .map 0]] fun g hp' => g = .tup [.agg [I r.1.Kind, I r.1.Number, S r.1.Words, I r.1.Version.1, I r.1.Version.2.1, I r.1.Version.2.2.1, I r.1.Version.2.2.2], B r.2] ∧ hp' = [mOb (kD Lcp) false (eT 83 10 Lcn) v_r.list, .box 240 [I v_r.fresh, .map 0]] := by
  obtain ⟨h1, h⟩ := Kia h
  have h1 := Nat.le_of_ble_eq_true h1
  cases h
  intro Z w M vs hr hsz hvs
  obtain ⟨v0, v1, v2, v3, rfl⟩ : ∃ v0 v1 v2 v3, vs = #[v0, v1, v2, v3] := by
    obtain ⟨vs⟩ := vs
    match vs, hsz with
    | [a, b, c, d], _ => exact ⟨a, b, c, d, rfl⟩
  have g0 := hvs 0 _ _ rfl rfl
  obtain rfl := vr_v (hvs 1 _ _ rfl rfl)
  obtain rfl := vr_v (hvs 2 _ _ rfl rfl)
  obtain rfl := vr_v (hvs 3 _ _ rfl rfl)
  cases g0 with
  | ptr hM =>
    rename_i br c
    obtain ⟨cs, hb, hcl, hcr⟩ := hr.obj 1 _ _ rfl hM
    obtain ⟨x0, q1, q2, q3⟩ := hcr 0 _ rfl
    obtain ⟨x1, q4, q5, q6⟩ := hcr 1 _ rfl
    obtain rfl := vr_v q3
    cases q6 with
    | map hM0 =>
      rename_i bm c0
      have hcs : cs = #[.int .i64 v_r.fresh, .map (some bm)] := by
        obtain ⟨l⟩ := cs
        match l, hcl with
        | [a, b], _ =>
          simp at q1 q4
          rw [q1, q4]
      subst hcs
      obtain ⟨m', ms, cl, hA⟩ := Kmx hr (id := 0) (st := none) rfl hM0
      obtain ⟨v, hv, hlk⟩ := Kau hΓ (t := 238) (kt := 242) (et := 40) v_r.list (⟨node, name⟩ : Lda) rfl rfl rfl Lct rfl hA
      have hbm : bm < w.heap.size := (Array.getElem?_eq_some_iff.1 hA.heap).1
      cases hv with
      | rt _ _ _ _ _ _ hv ht =>
        obtain ⟨a, cap, rfl, hI⟩ := Kan hv
        refine (callsIn_wide.1 (Kas Fence.wide 10 trivial trivial trivial rfl (by decide) br bm a _ cap _ v_r.fresh node name v_at h1 w hb hbm hlk hI)).mono ?_
        rintro e w' ⟨rfl, hB⟩
        obtain ⟨q1, q2, q3⟩ := Koj hr hB
        exact ⟨_, _, _, M, rfl, ⟨rfl, rfl⟩, q1, Kao _ _, q2, q3⟩
end Go.Proofs.YthhdojhbohfmnaaGreatDoor
