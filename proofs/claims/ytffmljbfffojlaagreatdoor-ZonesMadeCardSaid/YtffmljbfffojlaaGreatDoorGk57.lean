/-
  THE GHOST LOGIC, PART 57: slices.SortFunc at structs of plain values, whatever the length, by a function whose walk is known.
-/
import Derived.Test.YtffmljbfffojlaaGreatDoorGk49
import Derived.Test.YtffmljbfffojlaaGreatDoorGk55
import Derived.Test.YtffmljbfffojlaaGreatDoorGk56
import Derived.Shelf.SlSortCmp.NoneTotal
set_option linter.unusedVariables false
set_option linter.unusedSimpArgs false
set_option linter.unusedSectionVars false
namespace Go.Gk
open Go.Sort Go.Proofs Go.Shelf
/-- What a plain contract says in the kit's own words: new blocks behind the heap, and draws. -/
theorem pure_grown {P : Program} {f : FuncId} {gs : List G} {r : Value} (h : Pure P f gs (.d (.v r))) {vs : Array Value} (hsz : vs.size = gs.length) {Z : Env} {w : World} {M : Mp} (hr : RelH Z [] M w)
    (hvs : ∀ (j : Nat) (g : G) (v : Value), gs[j]? = some g → vs[j]? = some v → VR w (ownZ Z [] M) M g v) : Calls P f vs w fun e w' => e = .returned r ∧ ∃ q os', w' = Sort.grow (w.drewN q) os' := by
  have h1 := h Z w M vs hr hsz hvs
  refine (calls_dr h1 fun e w' ⟨v, g, hp', M', he, _⟩ => ⟨v, he⟩).mono ?_
  rintro e w' ⟨⟨v, g, hp', M', rfl, ⟨rfl, rfl⟩, h3, h4, h5, h6⟩, hd⟩
  refine ⟨by rw [vr_v h4], w'.drawn - w.drawn, w'.heap.extract w.heap.size w'.heap.size, ?_⟩
  have hh : w'.heap = w.heap ++ w'.heap.extract w.heap.size w'.heap.size := by
    apply Array.ext_getElem?
    intro i
    by_cases hi : i < w.heap.size
    · rw [Array.getElem?_append_left hi, h5.keep i hi own_nil]
    · rw [Array.getElem?_append_right (by omega), Array.getElem?_extract]
      by_cases hi2 : i < w'.heap.size
      · rw [if_pos (by omega)]
        congr 1
        omega
      · rw [if_neg (by omega), Array.getElem?_eq_none (by omega)]
  have e1 := h5.os; have e2 := h5.tape; have e3 := h5.output
  cases w'
  cases w
  simp only [Sort.grow, World.drewN] at *
  simp only [World.mk.injEq]
  exact ⟨hh, e2, by omega, e1, e3⟩
theorem flatK_list {α : Type} [Inhabited α] (enc : α → List Value) (k : Nat) (hk : ∀ x, (enc x).length = k) (l : List α) : (Sort.flatK enc k l.toArray).toList = l.flatMap enc := by
  have key : ∀ (l : List α) (t : Nat), t < l.length * k → (l.flatMap enc)[t]? = some ((enc l[t / k]!)[t % k]!) := by
    intro l
    induction l with
    | nil => intro t h; simp at h
    | cons x l ih =>
      intro t h
      rw [List.flatMap_cons]
      have k0 : 0 < k := by
        rcases Nat.eq_zero_or_pos k with h0 | h0
        · subst h0; simp at h
        · exact h0
      by_cases ht : t < k
      · rw [List.getElem?_append_left (by rw [hk]; exact ht), Nat.div_eq_of_lt ht, Nat.mod_eq_of_lt ht]
        simp only [List.getElem!_cons_zero]
        rw [getElem!_pos (enc x) t (by rw [hk]; exact ht), List.getElem?_eq_getElem]
      · obtain ⟨u, rfl⟩ : ∃ u, t = u + k := ⟨t - k, by omega⟩
        rw [List.getElem?_append_right (by rw [hk]; omega), hk, Nat.add_sub_cancel, ih u (by rw [List.length_cons, Nat.add_mul, Nat.one_mul] at h; omega), Nat.add_div_right _ k0, Nat.add_mod_right]
        simp only [Nat.succ_eq_add_one, List.getElem!_cons_succ]
  have hlen : (l.flatMap enc).length = l.length * k := by
    induction l with
    | nil => simp
    | cons x l ih => rw [List.flatMap_cons, List.length_append, ih, hk, List.length_cons, Nat.add_mul, Nat.one_mul, Nat.add_comm]
  apply List.ext_getElem?
  intro t
  by_cases h : t < l.length * k
  · rw [key l t h]
    have h2 : t < (Sort.flatK enc k l.toArray).size := by simpa using h
    rw [Array.getElem?_toList, Array.getElem?_eq_getElem h2, ← getElem!_pos (Sort.flatK enc k l.toArray) t h2, Sort.get_flatK _ _ _ t (by simpa using h)]
    simp
  · rw [List.getElem?_eq_none (by simpa using h), List.getElem?_eq_none (by rw [hlen]; omega)]
section
variable {P : Program} {ρ : Ren} {Γ : TypeId → Option TI} {α : Type} [Inhabited α]
theorem dv_rel (enc : α → List Value) (h1 : ∀ x, ∀ v ∈ enc x, v.oneCell' = true) (x : α) (w : World) (O : Ow) (M : Mp) : VR w O M (.agg ((enc x).map fun v => .d (.v v))) (.agg (enc x).toArray) := by
  refine .agg (by simp) fun j g v hg hv => ?_
  rw [List.getElem?_map] at hg
  obtain ⟨u, hu, rfl⟩ := Option.map_eq_some_iff.1 hg
  have hv' : (enc x)[j]? = some v := by simpa using hv
  rw [hu] at hv'
  cases hv'
  exact .d (.v _ (h1 x _ (List.mem_of_getElem? hu)))
/-- The one object is others' for a while. -/
theorem rel_hide {o : Ob} {Z : Env} {M : Mp} {w : World} {b c : Nat} (hr : RelH Z [o] M w) (hl : o.live = true) (hM : M.l[0]? = some (some (b, c))) : RelH (zB Z [b]) [] ⟨[], M.h⟩ w := by
  refine ⟨rfl, fun i o m h => by simp at h, fun x hx => absurd hx own_nil, fun x hx => ?_, hr.amb, fun i j oi oj b c c' h => by simp at h, ⟨fun x hx => ⟨(hr.bags.tgs x hx).1, fun _ => obOwn_nil⟩, fun i j _ _ _ _ _ _ h => by simp at h, fun i _ _ _ h => by simp at h, hr.bags.hds⟩⟩
  rcases hx with hx | hx
  · exact hr.old x hx
  · obtain rfl : x = b := by simpa using hx
    exact hr.block_ob ⟨0, o, c, rfl, hl, hM⟩
/-- slices.SortFunc, whatever the length: the row holds the sorted list. -/
theorem EC.sortFunc (L : SlLaysF0.n6 P ρ) (hΓ : TOK P Γ) {i : TI} (hi : Γ (ρ.t 24) = some i) (hag : TypeDesc.isAgg i.desc = true) {te : TypeId} (enc : α → List Value) (ed : α → List D) (hed : ∀ x, ed x = (enc x).map .v) (hk : ∀ x, (enc x).length = i.size) (h1 : ∀ x, ((enc x).all fun v => v.oneCell') = true)
    {cf : α → α → Option Int} {g : Nat} (eg : ∀ args w, (callFunc g args).run P w = .ok (.enter g args) w) (hcmp : ∀ {x y : α} {r : Int}, cf x y = some r → Pure P g [.agg ((ed x).map .d), .agg ((ed y).map .d)] (I r)) {l r : List α} (h : sortF cf l = some r) :
    EC P (ρ.f 6) [.sl 0 l.length, .fn (.func g) [] []] [.row te i.size l.length (l.flatMap ed)] fun g' hp' => g' = .tup [] ∧ hp' = [.row te i.size r.length (r.flatMap ed)] := by
  obtain ⟨ok, hr0⟩ := sortF_some h
  have h1' : ∀ x, ∀ v ∈ enc x, v.oneCell' = true := fun x => List.all_eq_true.1 (h1 x)
  have hlen : r.length = l.length := by rw [hr0, List.length_mergeSort]
  have hfl : ∀ l : List α, l.flatMap ed = (l.flatMap enc).map .v := fun l => by
    induction l with
    | nil => rfl
    | cons x l ih => rw [List.flatMap_cons, List.flatMap_cons, List.map_append, ih, hed]
  rw [hfl, hfl]
  intro Z w M vs hr hsz hvs
  obtain ⟨v, u, rfl⟩ : ∃ v u, vs = #[v, u] := by
    obtain ⟨vs⟩ := vs
    match vs, hsz with
    | [v, u], _ => exact ⟨v, u, rfl⟩
  have hv := hvs 0 _ v rfl rfl
  have hu := hvs 1 _ u rfl rfl
  obtain rfl : u = .func (.func g) #[] #[] := by
    cases hu with
    | fn l1 l2 h1 h2 =>
      have e1 := Array.eq_empty_of_size_eq_zero l1
      have e2 := Array.eq_empty_of_size_eq_zero l2
      rw [e1, e2]
  generalize hn : l.length = n at hv hr hlen
  cases hv with
  | slnil hM =>
    obtain rfl : l = [] := List.eq_nil_of_length_eq_zero hn
    obtain rfl : r = [] := List.eq_nil_of_length_eq_zero hlen
    refine (AnyF.slices_SortFunc_none L none 0 _ w).mono ?_
    rintro e w' ⟨rfl, rfl⟩
    exact ⟨_, .tup [], _, M, rfl, ⟨rfl, rfl⟩, hr, .tup rfl (fun j g v hg => by simp at hg), Stp.refl _ _, ⟨by rw [hr.len]; exact Nat.le_refl _, fun _ _ => rfl⟩⟩
  | sl hM hle hm =>
    rename_i b c
    obtain ⟨hlen0, cs, hb, hcs, hnc, hcm, hdata⟩ := hr.obj 0 _ _ rfl hM
    have hblk : b < w.heap.size := (Array.getElem?_eq_some_iff.1 hb).1
    have hFl := flatK_list enc i.size hk l
    have hF : ∀ j, (Sort.flatK enc i.size l.toArray)[j]? = (l.flatMap enc)[j]? := fun j => by rw [← hFl, Array.getElem?_toList]
    have hH : HoldsK enc i.size w b 0 l.toArray := fun j hj => by
      have hj' : j < (Sort.flatK enc i.size l.toArray).size := hj
      have e0 : (l.flatMap enc)[j]? = some ((Sort.flatK enc i.size l.toArray)[j]) := by rw [← hF, Array.getElem?_eq_getElem hj']
      obtain ⟨v, e1, e2⟩ := hdata j (.v ((Sort.flatK enc i.size l.toArray)[j])) (by rw [List.getElem?_map, e0]; rfl)
      cases e2
      refine ⟨?_, ?_⟩
      · have : j < cs.size := (Array.getElem?_eq_some_iff.1 e1).1
        simp only [World.cell?, Nat.zero_add, hb]
        rw [getElem!_pos _ j hj]
        simpa using e1
      · simp only [World.frozen?, hb]
        simp
    have hput : ∀ (q : Nat) (d : Array α) (os : Array Obj), d.size = n → RelH Z [.row te i.size n (((Sort.flatK enc i.size d).toList).map .v)] M (Sort.grow (putRow id (Sort.ahead w q) b 0 (Sort.flatK enc i.size d)) os) ∧
        Stp w (own [.row te i.size n ((l.flatMap enc).map .v)] M) (Sort.grow (putRow id (Sort.ahead w q) b 0 (Sort.flatK enc i.size d)) os) (own [.row te i.size n (((Sort.flatK enc i.size d).toList).map .v)] M) := by
      intro q d os hd
      have hone : ∀ j, j < (Sort.flatK enc i.size d).size → ((Sort.flatK enc i.size d)[j]!).oneCell' = true := fun j hj => by
        rw [Sort.get_flatK _ _ _ j (by simpa using hj)]
        have k0 : 0 < i.size := by
          rcases Nat.eq_zero_or_pos i.size with h0 | h0
          · rw [Sort.size_flatK, h0, Nat.mul_zero] at hj; exact absurd hj (Nat.not_lt_zero _)
          · exact h0
        have hjk : j % i.size < (enc d[j / i.size]!).length := by rw [hk]; exact Nat.mod_lt _ k0
        rw [getElem!_pos (enc d[j / i.size]!) (j % i.size) hjk]
        exact h1' _ _ (List.getElem_mem hjk)
      have hblk' : (putRow id (Sort.ahead w q) b 0 (Sort.flatK enc i.size d)).heap[b]? = some (.cells (Sort.putCells id 0 (Sort.flatK enc i.size d) cs) te (0, 0)) := by
        simp only [Sort.putRow, Sort.mapBlock, Sort.heap_ahead, Array.getElem?_modify, if_true, hb]
        rfl
      obtain ⟨r1, r2⟩ := rel_put hr (id := 0) (o' := .row te i.size n (((Sort.flatK enc i.size d).toList).map .v)) rfl rfl hM (w' := putRow id (Sort.ahead w q) b 0 (Sort.flatK enc i.size d)) (by simp [Sort.putRow, Sort.mapBlock]) (fun j hj => by
        simp only [Sort.putRow, Sort.mapBlock, Sort.heap_ahead, Array.getElem?_modify]
        simp [Ne.symm hj]) rfl rfl rfl (fun hst => ⟨by simp [hd], _, hblk', by simp [Sort.putCells]; omega, hnc, hcm, fun j dd hj => by
          rw [List.getElem?_map] at hj
          obtain ⟨x, hx, rfl⟩ := Option.map_eq_some_iff.1 hj
          have hjd : j < (Sort.flatK enc i.size d).size := by
            have := (List.getElem?_eq_some_iff.1 hx).1
            simpa using this
          have hxe : (Sort.flatK enc i.size d)[j]! = x := by
            rw [getElem!_pos _ j hjd]
            have e := (List.getElem?_eq_some_iff.1 hx).2
            simpa using e
          refine ⟨x, ?_, .v _ (by rw [← hxe]; exact hone j hjd)⟩
          have hcj : j < cs.size := by
            have : j < d.size * i.size := by simpa using hjd
            rw [hd] at this
            have := Nat.mul_le_mul_right i.size hnc
            omega
          simp only [Sort.putCells, Array.getElem?_mapIdx, Array.getElem?_eq_getElem hcj, Option.map_some]
          rw [if_pos ⟨Nat.zero_le _, by omega⟩, Nat.sub_zero, hxe]
          rfl⟩) rfl
      obtain ⟨q1, q2⟩ := rel_grow r1 os
      exact ⟨q1, r2.trans q2⟩
    have hcmp' : CmpLays P g #[] enc i.size (fun x y => (cf x y).getD 0) b 0 l.toArray.size w := fun m os dk hs x y => by
      obtain ⟨q, hq⟩ := ok.tot x y
      obtain ⟨k1, _⟩ := hput m dk os (by rw [hs]; simpa using hn)
      have hp := hcmp hq
      have hag' : ∀ x, ((ed x).map G.d) = (enc x).map fun v => .d (.v v) := fun x => by rw [hed, List.map_map]; rfl
      rw [hag', hag'] at hp
      have := pure_grown hp (vs := #[.agg (enc x).toArray, .agg (enc y).toArray]) rfl (Z := zB Z [b]) (M := ⟨[], M.h⟩) (w := sortWorldK enc i.size w b 0 m dk os) (rel_hide k1 rfl hM) (fun j gg v hg hv => by
        match j with
        | 0 => cases hg; cases hv; exact dv_rel enc h1' x _ _ _
        | 1 => cases hg; cases hv; exact dv_rel enc h1' y _ _ _
        | j + 2 => simp at hg)
      show Calls P g _ _ fun e w' => e = .returned (.int .i64 ((cf x y).getD 0)) ∧ _
      rw [hq]
      exact this
    have key := AnyQ.slices_SortFunc L i.size (fun w => by rw [run_isAgg' (hΓ _ _ hi).1, hag]) (fun w => run_size' hΓ hi) enc hk h1' (fun x y => (cf x y).getD 0) ok.swo g #[] b 0 c l.toArray w eg hcmp' hH hblk (by simpa using ok.len)
    simp only [List.size_toArray, hn] at key
    refine key.mono ?_
    rintro e w' ⟨rfl, d', q, os, ⟨p1, p2, p3⟩, hs, rfl⟩
    have hd' : d'.toList = r := by
      rw [hr0]
      refine sorted_one ok.swo ok.tie ?_ ?_
      · have e1 : d'.extract 0 n = d' := by
          have : n = d'.size := by rw [p1]; simpa using hn.symm
          rw [this]; exact Array.extract_size
        have e2 : l.toArray.extract 0 n = l.toArray := by
          have : n = l.toArray.size := by simpa using hn.symm
          rw [this]; exact Array.extract_size
        rw [e1, e2] at p3
        simpa using p3
      · rw [List.pairwise_iff_getElem]
        intro a b' ha hb' hab
        have hb2 : b' < d'.size := by simpa using hb'
        have ha2 : a < d'.size := by simpa using ha
        have := hs a b' (Nat.zero_le _) hab (by rw [p1] at hb2; simpa [hn] using hb2)
        rw [getElem!_pos d' a ha2, getElem!_pos d' b' hb2] at this
        simpa [ltO, ltOf] using this
    obtain ⟨k1, k2⟩ := hput q d' os (by rw [p1]; simpa using hn)
    have e3 : (Sort.flatK enc i.size d').toList = r.flatMap enc := by
      have := flatK_list enc i.size hk d'.toList
      rw [hd'] at this
      rw [← this, ← hd']
    rw [e3] at k1 k2
    rw [hlen]
    exact ⟨_, .tup [], _, M, rfl, ⟨rfl, rfl⟩, k1, .tup rfl (fun j g v hg => by simp at hg), k2, ⟨by rw [hr.len]; exact Nat.le_refl _, fun _ _ => rfl⟩⟩
end
end Go.Gk
