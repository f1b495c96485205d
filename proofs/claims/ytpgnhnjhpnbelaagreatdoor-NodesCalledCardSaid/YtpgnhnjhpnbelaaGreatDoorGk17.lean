/-
  THE GHOST LOGIC, PART 17: contracts in the kit's own form that write into a row; a callee that makes a row, where there are objects already.
-/
import Derived.Test.YtpgnhnjhpnbelaaGreatDoorGk16
import Derived.Sort.Row
set_option linter.unusedVariables false
set_option linter.unusedSimpArgs false
namespace Go.Gk

section
variable {P : Program} {Γ : TypeId → Option TI} {F N : Nat} {fr : Fr} {hp : List Ob} {g : G} {Z : Env} {M : Mp} {w : World}

/-- An object's block has turned, and nothing else. -/
theorem rel_put (hr : RelH Z hp M w) {id b c : Nat} {o o' : Ob} (ho : hp[id]? = some o) (hl : o.live = true) (hM : M[id]? = some (some (b, c))) {w' : World} (hsz : w'.heap.size = w.heap.size) (hother : ∀ k, k ≠ b → w'.heap[k]? = w.heap[k]?)
    (h1 : w'.os = w.os) (h2 : w'.tape = w.tape) (h3 : w'.output = w.output)
    (ho' : Stp w (ownZ Z hp M) w' (ownZ Z (hp.set id o') M) → ObR w' (ownZ Z (hp.set id o') M) M o' (some (b, c))) (hl' : o'.live = true) :
    RelH Z (hp.set id o') M w' ∧ Stp w (own hp M) w' (own (hp.set id o') M) := by
  have hid : id < hp.length := (List.getElem?_eq_some_iff.1 ho).1
  have hown : ∀ b', own (hp.set id o') M b' → own hp M b' := by
    rintro b' ⟨i, oi, ci, e1, e2, e3⟩
    by_cases hi : i = id
    · subst hi; exact ⟨i, o, ci, ho, hl, e3⟩
    · rw [List.getElem?_set_ne (Ne.symm hi)] at e1; exact ⟨i, oi, ci, e1, e2, e3⟩
  have hst : Stp w (own hp M) w' (own (hp.set id o') M) :=
    ⟨by omega, fun b' _ hn => hother b' fun e => hn (e ▸ ⟨id, o, c, ho, hl, hM⟩), fun b' _ h => hown b' h, h1, h2, h3⟩
  refine ⟨⟨by simp [hr.len], fun i oi m e1 e2 => ?_, fun b' hb' hz => hr.apart b' (hown b' hb') hz, fun b' hz => by have := hr.old b' hz; omega, hr.amb_stp hst, fun i j oi oj b1 c1 c2 e1 e2 l1 l2 m1 m2 => ?_⟩, hst⟩
  · by_cases hi : i = id
    · subst hi
      simp [hid] at e1
      subst e1
      rw [hM] at e2
      cases e2
      exact ho' (stp_z Z hst)
    · rw [List.getElem?_set_ne (Ne.symm hi)] at e1
      have := hr.obj i oi m e1 e2
      refine this.move (k := M.length) (stp_z Z hst) (fun _ _ => rfl) this.bel fun b' c' e hl2 => ?_
      subst e
      refine hother b' fun e => hi ?_
      subst e
      exact hr.inj i id oi o b' c' c e1 ho hl2 hl e2 hM
  · have key : ∀ (i : Nat) (oi : Ob), (hp.set id o')[i]? = some oi → oi.live = true → ∃ oi' : Ob, hp[i]? = some oi' ∧ oi'.live = true := fun i oi e1 l1 => by
      by_cases hi : i = id
      · subst hi; exact ⟨o, ho, hl⟩
      · rw [List.getElem?_set_ne (Ne.symm hi)] at e1; exact ⟨oi, e1, l1⟩
    obtain ⟨oi', f1, f2⟩ := key i oi e1 l1
    obtain ⟨oj', f3, f4⟩ := key j oj e2 l2
    exact hr.inj i j oi' oj' b1 c1 c2 f1 f3 f2 f4 m1 m2

/-- A row that is written over in place, and nothing else. -/
theorem EC.of_putRow {α : Type} [Inhabited α] {f : FuncId} {t : TypeId} {n : Nat} {enc : α → Value} {d d' : Array α} (h1 : ∀ x, (enc x).oneCell' = true) (hn : d.size = n) (hn' : d'.size = n)
    (h0 : ∀ w, Calls P f #[.slice none 0 0] w fun e w' => e = .returned (.tuple #[]) ∧ w' = w)
    (h : ∀ w b c, Sort.Holds enc w b 0 d → Calls P f #[.slice (some ⟨b, 0, none⟩) n c] w fun e w' => e = .returned (.tuple #[]) ∧ ∃ k, w' = Sort.putRow enc (Sort.ahead w k) b 0 d') :
    EC P f [.sl 0 n] [.row t 1 n (d.toList.map fun x => .v (enc x))] fun g hp' => g = .tup [] ∧ hp' = [.row t 1 n (d'.toList.map fun x => .v (enc x))] := by
  intro Z w M vs hr hsz hvs
  obtain ⟨v, rfl⟩ : ∃ v, vs = #[v] := by
    have : vs.size = 1 := hsz
    exact ⟨vs[0], by apply Array.ext; simp [this]; intro i h1 h2; simp at h2; subst h2; rfl⟩
  have hv := hvs 0 _ v rfl rfl
  cases hv with
  | slnil hM =>
    refine (h0 w).mono ?_
    rintro e w' ⟨rfl, rfl⟩
    have hd : d.toList = [] := by simpa using hn
    have hd' : d'.toList = [] := by simpa using hn'
    refine ⟨_, .tup [], _, M, rfl, ⟨rfl, rfl⟩, ?_, .tup rfl (fun j g v hg => by simp at hg), (by rw [hd, hd']; exact Stp.refl _ _), ⟨by rw [hr.len]; exact Nat.le_refl _, fun _ _ => rfl⟩⟩
    rw [hd'] ; rw [hd] at hr; exact hr
  | sl hM hle hm =>
    rename_i b c
    obtain ⟨hlen, cs, hb, hcs, hnc, hcm, hdata⟩ := hr.obj 0 _ _ rfl hM
    have hH : Sort.Holds enc w b 0 d := fun j hj => by
      have hdj : (d.toList.map fun x => D.v (enc x))[j]? = some (.v (enc d[j])) := by simp [hj]
      obtain ⟨v, e1, e2⟩ := hdata j _ hdj
      cases e2
      refine ⟨?_, ?_⟩
      · have : j < cs.size := (Array.getElem?_eq_some_iff.1 e1).1
        simp only [World.cell?, Nat.zero_add, hb]
        rw [getElem!_pos d j hj]
        simpa using e1
      · simp only [World.frozen?, hb]
        simp
    refine (h w b c hH).mono ?_
    rintro e w' ⟨rfl, k, rfl⟩
    have hblk : (Sort.putRow enc (Sort.ahead w k) b 0 d').heap[b]? = some (.cells (Sort.putCells enc 0 d' cs) t (0, 0)) := by
      simp only [Sort.putRow, Sort.mapBlock, Sort.heap_ahead, Array.getElem?_modify, if_true, hb]
      rfl
    obtain ⟨r1, r2⟩ := rel_put hr (id := 0) (o' := .row t 1 n (d'.toList.map fun x => .v (enc x))) rfl rfl hM (w' := Sort.putRow enc (Sort.ahead w k) b 0 d') (by simp [Sort.putRow, Sort.mapBlock]) (fun j hj => by
      simp only [Sort.putRow, Sort.mapBlock, Sort.heap_ahead, Array.getElem?_modify]
      simp [Ne.symm hj]) rfl rfl rfl (fun hst => ⟨by simp [hn'], _, hblk, by simp [Sort.putCells]; omega, hnc, hcm, fun j dd hj => by
        rw [List.getElem?_map] at hj
        obtain ⟨x, hx, rfl⟩ := Option.map_eq_some_iff.1 hj
        have hjd : j < d'.size := by
          have := (List.getElem?_eq_some_iff.1 hx).1
          simpa using this
        refine ⟨enc x, ?_, .v _ (h1 x)⟩
        have hcj : j < cs.size := by omega
        simp only [Sort.putCells, Array.getElem?_mapIdx, Array.getElem?_eq_getElem hcj, Option.map_some]
        rw [if_pos ⟨Nat.zero_le _, by omega⟩, Nat.sub_zero, getElem!_pos d' j hjd]
        have : d'[j] = x := by
          have e := (List.getElem?_eq_some_iff.1 hx).2
          simpa using e
        rw [this]⟩) rfl
    exact ⟨_, .tup [], _, M, rfl, ⟨rfl, rfl⟩, r1, .tup rfl (fun j g v hg => by simp at hg), r2, ⟨by rw [hr.len]; exact Nat.le_refl _, fun _ _ => rfl⟩⟩

/-- A callee that makes a row of data, where there are objects already. -/
theorem EC.fresh {f : FuncId} {gs : List G} {n sz : Nat} {t : TypeId} {ds : List D} (h : EC P f gs [] fun g hp' => g = .sl 0 n ∧ hp' = [.row t sz n ds]) (hg : G.belAll 0 gs = true) :
    EC P f gs hp fun g hp' => g = .sl hp.length n ∧ hp' = hp ++ [.row t sz n ds] := by
  have hgs : gs.map (G.ren (rn [] hp.length)) = gs := by
    have : ∀ gs : List G, G.belAll 0 gs = true → gs.map (G.ren (rn [] hp.length)) = gs := by
      intro gs
      induction gs with
      | nil => intro _; rfl
      | cons g gs ih =>
        intro h
        simp only [G.belAll, Bool.and_eq_true] at h
        simp only [List.map_cons, ih h.2, G.ren_of_bel g h.1]
    exact this gs hg
  have := EC.frame (hp := hp) h [] rfl List.nodup_nil (fun i o r h1 => by simp at h1) (fun i o h1 => by simp at h1) hg
  rw [hgs] at this
  refine this.mono ?_
  rintro g hp' ⟨g0, hc', ⟨rfl, rfl⟩, rfl, _, rfl⟩
  refine ⟨by simp [G.ren, rn], by simp [upd, Ob.ren]⟩
end
end Go.Gk
