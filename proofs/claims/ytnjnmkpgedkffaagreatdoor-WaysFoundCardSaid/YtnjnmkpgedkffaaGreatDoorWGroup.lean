/-
  The plain laws of routers: the groups of the prefixes.
-/
import Derived.Test.YtnjnmkpgedkffaaGreatDoorWTurns
set_option linter.unusedVariables false
set_option linter.unusedSimpArgs false
set_option linter.unusedSectionVars false
set_option maxRecDepth 100000
namespace Go.Gk
/-- The prefixes, each once, of routers in order. -/
def hdS (ps : List T_api_Prefix) (x : Rt) : List T_api_Prefix := if ps.getLast? = some x.Prefix then ps else ps ++ [x.Prefix]
def hd (l : List Rt) : List T_api_Prefix := l.foldl hdS []
theorem hd_snoc (A : List Rt) (x : Rt) : hd (A ++ [x]) = hdS (hd A) x := by unfold hd; rw [List.foldl_append]; rfl
theorem hd_last (A : List Rt) : (hd A).getLast? = A.getLast?.map (·.Prefix) := by
  by_cases hA : A = []
  · subst hA; rfl
  · obtain ⟨B, x, rfl⟩ := last_of hA
    rw [hd_snoc]
    unfold hdS
    by_cases h : (hd B).getLast? = some x.Prefix
    · rw [if_pos h, h]; simp
    · rw [if_neg h]; simp
theorem hd_mem (A : List Rt) : ∀ p, p ∈ hd A ↔ ∃ x ∈ A, x.Prefix = p := by
  have key : ∀ (B : List Rt) (ps : List T_api_Prefix) p, p ∈ B.foldl hdS ps ↔ (p ∈ ps ∨ ∃ x ∈ B, x.Prefix = p) := by
    intro B
    induction B with
    | nil => intro ps p; simp
    | cons x B ih =>
      intro ps p
      rw [List.foldl_cons, ih]
      unfold hdS
      by_cases h : ps.getLast? = some x.Prefix
      · rw [if_pos h]
        constructor
        · rintro (h1 | ⟨y, hy, e⟩)
          · exact .inl h1
          · exact .inr ⟨y, List.mem_cons_of_mem _ hy, e⟩
        · rintro (h1 | ⟨y, hy, e⟩)
          · exact .inl h1
          · rcases List.mem_cons.1 hy with rfl | hy
            · exact .inl (e ▸ List.mem_of_getLast? h)
            · exact .inr ⟨y, hy, e⟩
      · rw [if_neg h]
        constructor
        · rintro (h1 | ⟨y, hy, e⟩)
          · rcases List.mem_append.1 h1 with h1 | h1
            · exact .inl h1
            · exact .inr ⟨x, List.mem_cons_self, (List.mem_singleton.1 h1).symm⟩
          · exact .inr ⟨y, List.mem_cons_of_mem _ hy, e⟩
        · rintro (h1 | ⟨y, hy, e⟩)
          · exact .inl (List.mem_append_left _ h1)
          · rcases List.mem_cons.1 hy with rfl | hy
            · exact .inl (List.mem_append_right _ (by simp [e]))
            · exact .inr ⟨y, hy, e⟩
  intro p
  unfold hd
  rw [key]
  simp
/-- Where the routers are in order, a new prefix is new. -/
theorem hd_new {A : List Rt} {x : Rt} (hr : ValR (A ++ [x])) (h : (hd A).getLast? ≠ some x.Prefix) : x.Prefix ∉ hd A := by
  intro hm
  obtain ⟨y, hy, e⟩ := (hd_mem A _).1 hm
  have hA : A ≠ [] := fun h => by subst h; cases hy
  obtain ⟨B, z, rfl⟩ := last_of hA
  apply h
  rw [hd_last]
  simp only [List.getLast?_concat, Option.map_some]
  congr 1
  obtain ⟨i, hi⟩ := List.getElem?_of_mem hy
  have hil := (List.getElem?_eq_some_iff.1 hi).1
  simp only [List.length_append, List.length_singleton] at hil
  have hz : ((B ++ [z]) ++ [x])[B.length]? = some z := by simp
  have hx : ((B ++ [z]) ++ [x])[B.length + 1]? = some x := by simp
  have hi' : ((B ++ [z]) ++ [x])[i]? = some y := by rw [List.getElem?_append_left (by simp; omega)]; exact hi
  have a2 := hr.2 B.length (B.length + 1) z x (by omega) hz hx
  have a1 : kP y.Prefix ≤ kP z.Prefix := by
    by_cases e2 : i = B.length
    · subst e2; rw [hz] at hi'; cases hi'; exact Int.le_refl _
    · exact hr.2 i B.length y z (by omega) hi' hz
  rw [e] at a1
  exact kP_inj (hr.1 z (List.mem_of_getElem? hz)).1 (hr.1 x (List.mem_of_getElem? hx)).1 (by omega)
theorem hd_nodup : ∀ (n : Nat) (A : List Rt), A.length = n → ValR A → (hd A).Nodup
  | 0, A, h, _ => by have := List.length_eq_zero_iff.1 h; subst this; exact List.nodup_nil
  | n + 1, A, h, hr => by
    have hA : A ≠ [] := fun e => by subst e; cases h
    obtain ⟨B, x, rfl⟩ := last_of hA
    have hB : ValR B := ⟨fun y hy => hr.1 y (List.mem_append_left _ hy), fun i j a b hij ha hb => hr.2 i j a b hij (by rw [List.getElem?_append_left (List.getElem?_eq_some_iff.1 ha).1]; exact ha) (by rw [List.getElem?_append_left (List.getElem?_eq_some_iff.1 hb).1]; exact hb)⟩
    have ih := hd_nodup n B (by simpa using h) hB
    rw [hd_snoc]
    unfold hdS
    by_cases hl : (hd B).getLast? = some x.Prefix
    · rw [if_pos hl]; exact ih
    · rw [if_neg hl]
      have hn := hd_new hr hl
      rw [List.nodup_append]
      refine ⟨ih, List.nodup_cons.2 ⟨by simp, List.nodup_nil⟩, ?_⟩
      intro a ha b hb
      rw [List.mem_singleton.1 hb]
      exact fun e => hn (e ▸ ha)
theorem ValR.take {A : List Rt} (hr : ValR A) (n : Nat) : ValR (A.take n) := ⟨fun y hy => hr.1 y (List.mem_of_mem_take hy), fun i j a b hij ha hb => by
  have h1 := (List.getElem?_eq_some_iff.1 ha).1
  have h2 := (List.getElem?_eq_some_iff.1 hb).1
  simp only [List.length_take] at h1 h2
  rw [List.getElem?_take_of_lt (by omega)] at ha hb
  exact hr.2 i j a b hij ha hb⟩
theorem appT_go {α : Type} {al : List Bool} {s : Tl α} {m : α} (ht : s.1 = 1 ∨ ∃ q, s.1 = q + 2 ∧ al[q]? = some true) (hs : s.2.length ≤ 1000) :
    ∃ al', appT al s [m] = some ((al.length + 2, s.2 ++ [m]), al') ∧ al'[al.length]? = some true := by
  unfold appT
  rw [apd_some (by simp; omega)]
  obtain ⟨t, l⟩ := s
  rcases ht with h | ⟨q, h, hq⟩
  · simp only at h
    subst h
    exact ⟨_, rfl, by simp⟩
  · simp only at h
    subst h
    refine ⟨al.set q false ++ [true], ?_, ?_⟩
    · simp only [bi_some, List.isEmpty_cons, cond_false]
      rw [hq]
      rfl
    · rw [List.getElem?_append_right (by simp), List.length_set]
      simp
/-- The program's groups. -/
theorem groups_ok (all : List Rt) (hr : ValR all) (hl : all.length ≤ 40) (al : List Bool) : ∃ G al', m_route_groupsOf all al = some (G, al') ∧ G.map (fun g => (g.v_prefix, g.list.2)) = (hd all).map fun p => (p, all.filter fun x => decide (x.Prefix = p)) := by
  unfold m_route_groupsOf
  have key := rangeF_at (f := fun (i1 : Nat) (x3 : Rt) (s2 : (List Bool) × (List T_route_group)) => bi (bif decide ((wi ((s2.2.length : Int) - 1) : Int) ≥ 0) then (bi (getZ s2.2 (wi ((s2.2.length : Int) - 1))) fun x15 => some ((((x15.v_prefix.Addr.Six : Bool) == x3.Prefix.Addr.Six) && (((x15.v_prefix.Addr.Hi : Int) == x3.Prefix.Addr.Hi) && (((x15.v_prefix.Addr.Lo : Int) == x3.Prefix.Addr.Lo) && true))) && (((x15.v_prefix.Bits : Int) == x3.Prefix.Bits) && true))) else (some false)) fun q12 => bif q12 then (bi (getZ s2.2 (wi ((s2.2.length : Int) - 1))) fun x20 => bi (appT s2.1 x20.list [x3]) fun y23 => bi (getZ s2.2 (wi ((s2.2.length : Int) - 1))) fun x25 => some (y23.2, s2.2.set ((wi ((s2.2.length : Int) - 1)).toNat) (⟨x25.v_prefix, y23.1⟩ : T_route_group))) else (bi (apd s2.2 [(⟨x3.Prefix, (1, [x3])⟩ : T_route_group)]) fun y29 => some (s2.1, y29)))
    all (fun i s => s.2.map (fun g => (g.v_prefix, g.list.2)) = (hd (all.take i)).map (fun p => (p, (all.take i).filter fun x => decide (x.Prefix = p))) ∧ s.2.length ≤ i ∧ ∀ g, s.2.getLast? = some g → (g.list.1 = 1 ∨ ∃ q, g.list.1 = q + 2 ∧ s.1[q]? = some true) ∧ g.list.2.length ≤ i) ?_ all 0 (al, []) rfl ⟨rfl, Nat.le_refl _, fun g hg => by cases hg⟩
  · obtain ⟨⟨al', G⟩, h1, h2⟩ := key
    refine ⟨G, al', ?_, ?_⟩
    · exact (congrArg (fun o => bi o fun q4 => some (q4.2, q4.1)) h1).trans rfl
    · have := h2.1
      simpa using this
  · rintro i x ⟨al1, out⟩ hx ⟨g1, g2, g3⟩
    have hil := (List.getElem?_eq_some_iff.1 hx).1
    have htk : all.take (i + 1) = all.take i ++ [x] := by rw [List.take_add_one, hx]; rfl
    have hrA : ValR (all.take i ++ [x]) := htk ▸ hr.take (i + 1)
    have hnd := hd_nodup _ (all.take i) rfl (hr.take i)
    generalize hA : all.take i = A at htk hrA hnd g1
    simp only at g1 g2 g3 ⊢
    have hlast : (out.getLast?).map (·.v_prefix) = (hd A).getLast? := by
      have e := congrArg (fun q => q.getLast?) g1
      simp only [List.getLast?_map] at e
      have e2 := congrArg (fun o => Option.map Prod.fst o) e
      simp only [Option.map_map] at e2
      refine Eq.trans e2 ?_
      cases (hd A).getLast? <;> rfl
    by_cases hsame : (hd A).getLast? = some x.Prefix
    · have hne : out ≠ [] := fun h => by subst h; rw [hsame] at hlast; cases hlast
      obtain ⟨out', g, rfl⟩ := last_of hne
      have hg : g.v_prefix = x.Prefix := by
        rw [hsame] at hlast
        simpa using hlast
      obtain ⟨ps, p, hps⟩ := last_of (l := hd A) (fun h => by rw [h] at hsame; cases hsame)
      have hp : p = x.Prefix := by rw [hps] at hsame; simpa using hsame
      subst hp
      have hlen : (out' ++ [g]).length = out'.length + 1 := by simp
      have hw : wi (((out' ++ [g]).length : Int) - 1) = (out'.length : Int) := by rw [hlen, wi_id (by omega) (by omega)]; omega
      obtain ⟨ht, htl⟩ := g3 g (by simp)
      obtain ⟨al2, ha1, ha2⟩ := appT_go (m := x) ht (by omega)
      refine ⟨(al2, out' ++ [⟨g.v_prefix, (al1.length + 2, g.list.2 ++ [x])⟩]), ?_, ?_, by simp at g2 ⊢; omega, ?_⟩
      · simp only [hw]
        rw [decide_eq_true (show (out'.length : Int) ≥ 0 by omega)]
        simp only [cond_true, getZ_cast, get_snoc, bi_some, prefix_eq]
        rw [decide_eq_true hg]
        simp only [cond_true, bi_some, ha1, Int.toNat_natCast, set_snoc]
      · rw [htk, hd_snoc]
        unfold hdS
        rw [if_pos hsame, hps]
        rw [hps] at g1 hnd
        simp only [List.map_append, List.map_cons, List.map_nil] at g1 ⊢
        have hs := List.append_inj g1 (by have := congrArg List.length g1; simpa using this)
        have hs2 := List.cons.inj hs.2
        have hs3 := Prod.mk.inj hs2.1
        rw [hs.1]
        congr 1
        · refine List.map_congr_left fun q hq => ?_
          have hne : x.Prefix ≠ q := by
            rw [List.nodup_append] at hnd
            exact fun e => hnd.2.2 q hq x.Prefix (by simp) e.symm
          rw [List.filter_append, List.filter_cons_of_neg (by simpa using hne)]
          simp
        · rw [List.filter_append, List.filter_cons_of_pos (by simp), hs3.1, hs3.2]
          rfl
      · intro g' hg'
        simp only [List.getLast?_concat, Option.some.injEq] at hg'
        subst hg'
        exact ⟨.inr ⟨al1.length, rfl, ha2⟩, by simp; omega⟩
    · refine ⟨(al1, out ++ [⟨x.Prefix, (1, [x])⟩]), ?_, ?_, by simp; omega, ?_⟩
      · have hq : (bif decide ((wi ((out.length : Int) - 1) : Int) ≥ 0) then (bi (getZ out (wi ((out.length : Int) - 1))) fun x15 => some ((((x15.v_prefix.Addr.Six : Bool) == x.Prefix.Addr.Six) && (((x15.v_prefix.Addr.Hi : Int) == x.Prefix.Addr.Hi) && (((x15.v_prefix.Addr.Lo : Int) == x.Prefix.Addr.Lo) && true))) && (((x15.v_prefix.Bits : Int) == x.Prefix.Bits) && true))) else (some false)) = some false := by
          by_cases hne : out = []
          · subst hne; rfl
          · obtain ⟨out', g, rfl⟩ := last_of hne
            have hlen : (out' ++ [g]).length = out'.length + 1 := by simp
            have hw : wi (((out' ++ [g]).length : Int) - 1) = (out'.length : Int) := by rw [hlen, wi_id (by omega) (by omega)]; omega
            rw [hw, decide_eq_true (show (out'.length : Int) ≥ 0 by omega)]
            simp only [cond_true, getZ_cast, get_snoc, bi_some, prefix_eq]
            rw [decide_eq_false]
            intro e
            apply hsame
            rw [← hlast, ← e]
            simp
        rw [hq]
        simp only [bi_some, cond_false]
        rw [apd_some (by simp; omega)]
        rfl
      · rw [htk, hd_snoc]
        unfold hdS
        rw [if_neg hsame]
        have hnew := hd_new hrA hsame
        simp only [List.map_append, List.map_cons, List.map_nil]
        rw [g1]
        congr 1
        · refine List.map_congr_left fun q hq => ?_
          have hne : x.Prefix ≠ q := fun e => hnew (e ▸ hq)
          rw [List.filter_append, List.filter_cons_of_neg (by simpa using hne)]
          simp
        · have hn : A.filter (fun y => decide (y.Prefix = x.Prefix)) = [] := List.filter_eq_nil_iff.2 fun y hy => by
            simp only [decide_eq_true_eq]
            exact fun e => hnew ((hd_mem A _).2 ⟨y, hy, e⟩)
          rw [List.filter_append, hn, List.filter_cons_of_pos (by simp)]
          rfl
      · intro g' hg'
        simp only [List.getLast?_concat, Option.some.injEq] at hg'
        subst hg'
        exact ⟨.inl rfl, by simp⟩
end Go.Gk
