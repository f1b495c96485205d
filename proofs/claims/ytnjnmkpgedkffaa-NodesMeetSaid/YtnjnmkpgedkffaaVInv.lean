/-
  The plain law of NodesMeet: program and reference of one translator side by side; other tags lie in the bag too.
-/
import Derived.Test.YtnjnmkpgedkffaaVOut
set_option linter.unusedVariables false
set_option linter.unusedSimpArgs false
set_option linter.unusedSectionVars false
set_option maxRecDepth 100000
namespace Go.Gk
/-- An entry and its group. -/
structure Rl (n : T_api_Nat) (e : T_route_entry) (g : List T_laneref1_sent) : Prop where
  ne : g ≠ []
  inn : e.inner = (g0 g).v_from
  prt : e.port = (g0 g).port
  dep : e.dep = seenS (g0 g).to n.Maps
  lst : e.last = (gl g).v_at
  snt : ∀ s, s ∈ e.sent.2 ↔ ∃ x ∈ g, x.to = s
  len : e.sent.2.length ≤ g.length
theorem Rl.fr {n : T_api_Nat} {e : T_route_entry} {g : List T_laneref1_sent} (h : Rl n e g) (v_at : Int) : frE n v_at e = frG n v_at g := by unfold frE frG; rw [h.lst]
theorem Rl.ky {n : T_api_Nat} {e : T_route_entry} {g : List T_laneref1_sent} (h : Rl n e g) (a b : T_api_Spot) : kyE n a b e = kyG n a b g := by unfold kyE kyG; rw [h.inn, h.dep]
theorem Rl.new (n : T_api_Nat) (v_at : Int) (a b : T_api_Spot) (p : Int) (tg : Nat) : Rl n ⟨a, p, seenS b n.Maps, v_at, (tg, [b])⟩ [⟨v_at, a, b, p⟩] :=
  ⟨by simp, rfl, rfl, rfl, rfl, fun s => by simp [eq_comm], Nat.le_refl _⟩
theorem Rl.upd {n : T_api_Nat} {e : T_route_entry} {g : List T_laneref1_sent} (h : Rl n e g) (v_at : Int) (a b : T_api_Spot) (p : Int) (tg : Nat) : Rl n (updE v_at b tg e) (g ++ [⟨v_at, a, b, p⟩]) := by
  refine ⟨by simp, ?_, ?_, ?_, ?_, fun s => ?_, ?_⟩
  · rw [g0_snoc h.ne]; exact h.inn
  · rw [g0_snoc h.ne]; exact h.prt
  · rw [g0_snoc h.ne]; exact h.dep
  · rw [gl_snoc]; rfl
  · unfold updE
    have hr : (∃ x ∈ g ++ [(⟨v_at, a, b, p⟩ : T_laneref1_sent)], x.to = s) ↔ ((∃ x ∈ g, x.to = s) ∨ b = s) := by
      constructor
      · rintro ⟨x, hx, e⟩
        rcases List.mem_append.1 hx with hx | hx
        · exact .inl ⟨x, hx, e⟩
        · rw [List.mem_singleton] at hx; subst hx; exact .inr e
      · rintro (⟨x, hx, e⟩ | rfl)
        · exact ⟨x, List.mem_append_left _ hx, e⟩
        · exact ⟨_, List.mem_append_right _ (List.mem_singleton.2 rfl), rfl⟩
    rw [hr, ← h.snt s]
    simp only
    by_cases hb : b ∈ e.sent.2
    · rw [if_pos hb]
      exact ⟨fun h => .inl h, fun h => by rcases h with h | rfl; exact h; exact hb⟩
    · rw [if_neg hb, List.mem_append, List.mem_singleton]
      exact or_congr Iff.rfl eq_comm
  · unfold updE
    have := h.len
    simp only
    split
    · simp; omega
    · simp; omega
def qn (n : T_api_Nat) (last : Int) : Int := if last > 0 then last + 1 else n.First
structure Inv (n : T_api_Nat) (ts : List Nat) (al : List Bool) (L : List T_route_entry) (nx : Int) (out : List T_laneref1_sent) (last now : Int) (c : Nat) : Prop where
  now0 : 0 ≤ now
  now1 : now < 345686400
  len : out.length ≤ c
  ats : ∀ x ∈ out, 0 ≤ x.v_at ∧ x.v_at < 345686400
  f2 : F2 (Rl n) L ((bld n out).filter (frG n now))
  ports : (L.map (·.port)).Nodup
  rng : ∀ e ∈ L, n.First ≤ e.port ∧ e.port < n.First + n.Ports
  keys : (L.map fun e => (e.inner, e.dep)).Nodup
  lv : Lv al (L.map (·.sent.1) ++ ts)
  nxt : nx = cyc n (qn n last) 0
  lst : last = 0 ∨ (n.First ≤ last ∧ last < n.First + n.Ports)
section
variable {n : T_api_Nat} {ts : List Nat} {al : List Bool} {L : List T_route_entry} {nx : Int} {out : List T_laneref1_sent} {last now : Int} {c : Nat}
theorem Inv.mono (h : Inv n ts al L nx out last now c) {al' : List Bool} (he : Exl al.length al al') {c' : Nat} (hc : c ≤ c') : Inv n ts al' L nx out last now c' :=
  ⟨h.now0, h.now1, Nat.le_trans h.len hc, h.ats, h.f2, h.ports, h.rng, h.keys, h.lv.ext he, h.nxt, h.lst⟩
theorem Inv.ll (h : Inv n ts al L nx out last now c) : L.length ≤ c := by
  rw [h.f2.len]
  exact Nat.le_trans (List.length_filter_le _ _) (Nat.le_trans (bld_len n out) h.len)
theorem Inv.oke (h : Inv n ts al L nx out last now c) : ∀ e ∈ L, okE e ∧ e.sent.2.length ≤ c := fun e he => by
  obtain ⟨g, hg, hr⟩ := h.f2.mem he
  obtain ⟨h1, h2, h3⟩ := bld_mem n out g (List.mem_filter.1 hg).1
  have := h.ats _ (h3 _ (gl_mem h1))
  have hl := h.len
  have hrl := hr.len
  refine ⟨?_, by omega⟩
  unfold okE
  rw [hr.lst]; exact this
/-- Time goes on. -/
theorem Inv.on (h : Inv n ts al L nx out last now c) {v_at : Int} (h1 : now ≤ v_at) (h2 : v_at < 345686400) : Inv n ts al (L.filter (frE n v_at)) nx out last v_at c := by
  refine ⟨by have := h.now0; omega, h2, h.len, h.ats, ?_, h.ports.sublist (List.filter_sublist.map _), fun e he => h.rng e (List.mem_filter.1 he).1, h.keys.sublist (List.filter_sublist.map _), h.lv.sub ((List.filter_sublist.map _).append (.refl _)), h.nxt, h.lst⟩
  have h3 := h.f2.filter (p := frE n v_at) (q := frG n v_at) fun a b hr => hr.fr v_at
  rw [List.filter_filter] at h3
  have : (bld n out).filter (fun g => frG n v_at g && frG n now g) = (bld n out).filter (frG n v_at) := by
    refine List.filter_congr fun g _ => ?_
    unfold frG
    by_cases hc : v_at - (gl g).v_at < n.Timeout
    · rw [decide_eq_true hc, decide_eq_true (show now - (gl g).v_at < n.Timeout by omega)]; rfl
    · rw [decide_eq_false hc]; rfl
  rw [this] at h3
  exact h3
theorem Inv.put (h : Inv n ts al L nx out last now c) (hn : NOk n) (a b : T_api_Spot) (p : Int) (tg : Nat) {al' : List Bool} {nx' last' : Int}
    (hp : L.any (kyE n a b) = false → n.First ≤ p ∧ p < n.First + n.Ports ∧ p ∉ L.map (·.port))
    (hlv : Lv al' ((ups (kyE n a b) (updE now b tg) ⟨a, p, seenS b n.Maps, now, (tg, [b])⟩ L).map (·.sent.1) ++ ts)) (hnx : nx' = cyc n (qn n last') 0) (hls : last' = 0 ∨ (n.First ≤ last' ∧ last' < n.First + n.Ports)) :
    Inv n ts al' (ups (kyE n a b) (updE now b tg) ⟨a, p, seenS b n.Maps, now, (tg, [b])⟩ L) nx' (out ++ [⟨now, a, b, p⟩]) last' now (c + 1) := by
  have htm := hn.tm
  refine ⟨h.now0, h.now1, by have := h.len; simp; omega, fun x hx => ?_, ?_, ?_, fun e he => ?_, ?_, hlv, hnx, hls⟩
  · rcases List.mem_append.1 hx with hx | hx
    · exact h.ats x hx
    · rw [List.mem_singleton] at hx; subst hx; exact ⟨h.now0, h.now1⟩
  · rw [bld_app]
    unfold bst
    rw [ups_filter (q := kyG n a b) (fr := frG n now)]
    · exact h.f2.ups (fun e g hr => hr.ky a b) (fun e g hr _ => hr.upd now a b p tg) (Rl.new n now a b p tg)
    · unfold frG; show decide (now - now < n.Timeout) = true; rw [decide_eq_true (by omega)]
    · intro g _ _
      unfold frG
      rw [gl_snoc]
      show decide (now - now < n.Timeout) = true; rw [decide_eq_true (by omega)]
  · rw [ups_map (f := updE now b tg) (fun e : T_route_entry => e.port) fun _ => rfl]
    split
    · exact h.ports
    · next hc =>
      obtain ⟨_, _, h3⟩ := hp (by simpa using hc)
      unfold List.Nodup
      rw [List.pairwise_append]
      exact ⟨h.ports, List.pairwise_singleton _ _, fun x hx y hy e => by rw [List.mem_singleton] at hy; subst hy; subst e; exact h3 hx⟩
  · cases hc : L.any (kyE n a b) with
    | true =>
      obtain ⟨i, e0, _, h1, h2, _, _⟩ := ixZ_some hc
      rw [ups_set h1 h2] at he
      rcases List.mem_or_eq_of_mem_set he with he | rfl
      · exact h.rng e he
      · exact h.rng e0 (List.mem_of_getElem? h2)
    | false =>
      rw [ups_none hc] at he
      rcases List.mem_append.1 he with he | he
      · exact h.rng e he
      · rw [List.mem_singleton] at he; subst he; exact ⟨(hp hc).1, (hp hc).2.1⟩
  · rw [ups_map (f := updE now b tg) (fun e : T_route_entry => (e.inner, e.dep)) fun _ => rfl]
    split
    · exact h.keys
    · next hc =>
      unfold List.Nodup
      rw [List.pairwise_append]
      refine ⟨h.keys, List.pairwise_singleton _ _, fun x hx y hy e => ?_⟩
      rw [List.mem_singleton] at hy; subst hy; subst e
      apply hc
      obtain ⟨e1, he1, e2⟩ := List.mem_map.1 hx
      injection e2 with e3 e4
      rw [List.any_eq_true]
      refine ⟨e1, he1, ?_⟩
      unfold kyE
      rw [decide_eq_true e3, decide_eq_true e4]; rfl
/-! ### The reference's Out -/
theorem rOut_er (v_at : Int) (t : T_laneref1_Translator) (a b : T_api_Spot) : m_cmp_Or_api_Errno [tfZ v_at t.now, sfZ a, sfZ b] = some (erZ v_at t.now a b) := by
  rw [orE_ok]
  unfold erZ
  by_cases h1 : tfZ v_at t.now = 0
  · by_cases h2 : sfZ a = 0
    · by_cases h3 : sfZ b = 0
      · simp [h1, h2, h3]
      · simp [h1, h2, bne_iff_ne.2 h3]
    · simp [h1, h2, bne_iff_ne.2 h2]
  · simp [h1, bne_iff_ne.2 h1]
theorem portR_ok (h : Inv n ts al L nx out last now c) (t : T_laneref1_Translator) (ht : t.n = n) (a b : T_api_Spot) (B : List (Tl T_laneref1_sent)) (hB : B.map (·.2) = (bld n out).filter (frG n now)) :
    ∃ s, rangeG (σ := Int) (fun i13 s14 => bi (getZ B (i13 : Int)) fun x25 => bi (bi (getZ x25.2 0) fun x30 => bif ((((x30.v_from.Addr.Six : Bool) == a.Addr.Six) && (((x30.v_from.Addr.Hi : Int) == a.Addr.Hi) && (((x30.v_from.Addr.Lo : Int) == a.Addr.Lo) && true))) && (((x30.v_from.Port : Int) == a.Port) && true)) then (bi (getZ x25.2 0) fun x33 => bi (m_laneref1_Translator_same t x33.to b) fun y35 => some y35) else (some false)) fun q28 => bif q28 then (bi (getZ x25.2 0) fun x39 => some x39.port) else (some s14)) (B.length : Int) 0 = some s ∧
      (∀ (i : Nat) (e : T_route_entry), L[i]? = some e → kyE n a b e = true → s = e.port) ∧ (L.any (kyE n a b) = false → s = 0) := by
  subst ht
  have hlen : L.length = B.length := by rw [h.f2.len, ← hB, List.length_map]
  obtain ⟨s, h1, h2, h3⟩ := rangeG_at (n := (B.length : Int)) (s := (0 : Int)) (f := fun i13 s14 => bi (getZ B (i13 : Int)) fun x25 => bi (bi (getZ x25.2 0) fun x30 => bif ((((x30.v_from.Addr.Six : Bool) == a.Addr.Six) && (((x30.v_from.Addr.Hi : Int) == a.Addr.Hi) && (((x30.v_from.Addr.Lo : Int) == a.Addr.Lo) && true))) && (((x30.v_from.Port : Int) == a.Port) && true)) then (bi (getZ x25.2 0) fun x33 => bi (m_laneref1_Translator_same t x33.to b) fun y35 => some y35) else (some false)) fun q28 => bif q28 then (bi (getZ x25.2 0) fun x39 => some x39.port) else (some s14))
    (fun i s => (∀ (j : Nat) (e : T_route_entry), j < i → L[j]? = some e → kyE t.n a b e = true → s = e.port) ∧ ((∀ (j : Nat) (e : T_route_entry), j < i → L[j]? = some e → kyE t.n a b e = false) → s = 0)) ⟨fun j e hj => absurd hj (Nat.not_lt_zero _), fun _ => rfl⟩ (by
      intro i s hi ⟨h2, h3⟩
      rw [Int.toNat_natCast] at hi
      have hx := List.getElem?_eq_getElem (l := B) hi
      have hy := List.getElem?_eq_getElem (l := L) (i := i) (by omega)
      obtain ⟨g, hg, hr⟩ := h.f2.at hy
      rw [← hB, List.getElem?_map, hx] at hg
      simp only [Option.map_some, Option.some.injEq] at hg
      simp only [getZ_cast, hx, bi_some, hg, g0_at hr.ne, same_ok, spot_eq]
      have hk : (bi (bif decide ((g0 g).v_from = a) then some (decide (seenS (g0 g).to t.n.Maps = seenS b t.n.Maps)) else some false) fun q28 => bif q28 then some (g0 g).port else some s) = some (if kyE t.n a b L[i] then L[i].port else s) := by
        rw [hr.ky a b, hr.prt]
        unfold kyG
        cases decide ((g0 g).v_from = a) <;> cases decide (seenS (g0 g).to t.n.Maps = seenS b t.n.Maps) <;> rfl
      refine ⟨_, hk, fun j e hj he hke => ?_, fun hno => ?_⟩
      · by_cases hji : j = i
        · subst hji
          rw [hy] at he; cases he
          rw [if_pos hke]
        · by_cases hki : kyE t.n a b L[i] = true
          · exfalso
            unfold kyE at hke hki
            simp only [Bool.and_eq_true, decide_eq_true_eq] at hke hki
            have hpw := pw_ne h.keys (i := j) (j := i) (a := (e.inner, e.dep)) (b := (L[i].inner, L[i].dep)) (by omega) (by rw [List.getElem?_map, he]; rfl) (by rw [List.getElem?_map, hy]; rfl)
            exact hpw (by rw [hke.1, hke.2, hki.1, hki.2])
          · rw [if_neg hki]
            exact h2 j e (by omega) he hke
      · have := hno i _ (by omega) hy
        rw [if_neg (by rw [this]; simp)]
        exact h3 fun j e hj he => hno j e (by omega) he)
  rw [Int.toNat_natCast] at h2 h3
  refine ⟨s, h1, fun i e he hk => h2 i e (by rw [← hlen]; exact (List.getElem?_eq_some_iff.1 he).1) he hk, fun hno => h3 fun j e _ he => ?_⟩
  have := List.any_eq_false.1 hno e (List.mem_of_getElem? he)
  simpa using this
theorem aft_qn (hn : NOk n) {p : Int} (h1 : n.First ≤ p) (h2 : p < n.First + n.Ports) : aft n p = cyc n (qn n p) 0 := by
  have hf := hn.fi
  unfold qn
  rw [if_pos (show p > 0 by omega)]
  unfold aft cyc
  rcases six hn with h | h | h | h | h | h <;> rw [h] at h2 ⊢ <;> split <;> omega
/-- What Out may give. -/
def Spt (n : T_api_Nat) (sp : T_api_Spot) : Prop := sp = zSpot ∨ (sp.Addr = n.Outer ∧ n.First ≤ sp.Port ∧ sp.Port < n.First + n.Ports)
theorem out_sep (h : Inv n ts al L nx out last now c) (hn : NOk n) (hc : c < 50) (k : Nat) (hk : 100 ≤ k) (v_at : Int) (a b : T_api_Spot) (ha : 0 ≤ a.Addr.Hi) (hb : 0 ≤ b.Addr.Hi) :
    ∃ sp er al1 L' nx' out' last' now', m_route_Translator_Out k ⟨n, now, nx, L⟩ v_at a b al = some (sp, er, ⟨n, now', nx', L'⟩, al1) ∧
      (∀ alR, ∃ alR', m_laneref1_Translator_Out k ⟨n, out, last, now⟩ v_at a b alR = some (sp, er, ⟨n, out', last', now'⟩, alR')) ∧ Inv n ts al1 L' nx' out' last' now' (c + 1) ∧ Spt n sp := by
  have hll := h.ll
  have hol := h.len
  by_cases her : erZ v_at now a b = 0
  · obtain ⟨e1, e2, e3⟩ := erZ0 her
    obtain ⟨b1, b2, b3⟩ := tf0 e1
    have h1 := h.on b3 b2
    have hl1 := h1.ll
    have hoke : ∀ e ∈ L, okE e := fun e he => (h.oke e he).1
    have hrO : ∀ al1, ∃ B al2, m_laneref1_Translator_lasting k ⟨n, out, last, now⟩ v_at al1 = some (B, al2) ∧ B.map (·.2) = (bld n out).filter (frG n v_at) ∧ Exl al1.length al1 al2 :=
      fun al1 => lastingR_ok k ⟨n, out, last, now⟩ v_at al1 b1 b2 (by simp only; omega) (by simp only; omega) h.ats
    have hBok : ∀ B : List (Tl T_laneref1_sent), B.map (·.2) = (bld n out).filter (frG n v_at) → (∀ e ∈ B, okG e.2) ∧ B.length ≤ c ∧ ∀ p : Int, (B.any fun e => (g0 e.2).port == p) = ((L.filter (frE n v_at)).any fun e => e.port == p) := by
      intro B hB
      refine ⟨fun e he => ?_, ?_, fun p => ?_⟩
      · have : e.2 ∈ (bld n out).filter (frG n v_at) := by rw [← hB]; exact List.mem_map_of_mem he
        exact bld_ok n out (by omega) h.ats _ (List.mem_filter.1 this).1
      · rw [show B.length = (L.filter (frE n v_at)).length by rw [h1.f2.len, ← hB, List.length_map]]; exact hl1
      · rw [h1.f2.any (p := fun e => e.port == p) (q := fun g => (g0 g).port == p) (fun e g hr => by rw [hr.prt]), ← hB, List.any_map]; rfl
    cases hany : (L.filter (frE n v_at)).any (kyE n a b) with
    | true =>
      obtain ⟨i, e, al1, p1, p2, p3, p4, p5⟩ := pOut_old k ⟨n, now, nx, L⟩ v_at a b al hk her (by simp only; omega) hoke (fun e he => by have := (h.oke e he).2; omega) ts h.lv hany
      simp only at p1 p2 p4 p5
      have hrg := h1.rng e (List.mem_of_getElem? p2)
      have hfi := hn.fi
      have hups : (L.filter (frE n v_at)).set i (updE v_at b (al.length + 2) e) = ups (kyE n a b) (updE v_at b (al.length + 2)) ⟨a, e.port, seenS b n.Maps, v_at, (al.length + 2, [b])⟩ (L.filter (frE n v_at)) := (ups_set p1 p2).symm
      rw [hups] at p4 p5
      refine ⟨_, _, al1, _, _, out ++ [⟨v_at, a, b, e.port⟩], last, v_at, p4, fun alR => ?_, h1.put hn a b e.port (al.length + 2) (fun hf => by rw [hany] at hf; cases hf) p5 h.nxt h.lst, .inr ⟨rfl, hrg.1, hrg.2⟩⟩
      obtain ⟨B, al2, q1, q2, q3⟩ := hrO alR
      obtain ⟨k1, k2, k3⟩ := hBok B q2
      obtain ⟨s, s1, s2, s3⟩ := portR_ok h1 ⟨n, out, last, now⟩ rfl a b B q2
      have hs := s2 i e p2 p3
      subst hs
      refine ⟨al2, ?_⟩
      unfold m_laneref1_Translator_Out
      rw [tfR, sfR a ha, sfR b hb]
      simp only [bi_some]
      rw [rOut_er v_at ⟨n, out, last, now⟩ a b]
      simp only [bi_some, her, bne_self_eq_false, cond_false]
      rw [q1]
      simp only [bi_some]
      rw [small_gd (by omega), gd_true, s1]
      simp only [bi_some]
      rw [beq_eq_false_iff_ne.2 (show e.port ≠ 0 by omega)]
      simp only [cond_false, bi_some, orI_inl]
      rw [apd_some (by simp; omega)]
      rfl
    | false =>
      have hq : n.First ≤ qn n last ∧ qn n last ≤ n.First + n.Ports := by
        unfold qn
        have := hn.po
        rcases h.lst with h0 | h0 <;> split <;> omega
      have hPl : (L.filter (frE n v_at)).length = ((L.filter (frE n v_at)).map fun e => e.port).length := by rw [List.length_map]
      have hpf := ports_full hn (qn n last) h1.ports fun p hp => by
        obtain ⟨e, he, rfl⟩ := List.mem_map.1 hp
        exact h1.rng e he
      rw [← hPl] at hpf
      have hmem : ∀ p : Int, ((L.filter (frE n v_at)).any fun e => e.port == p) = true ↔ p ∈ (L.filter (frE n v_at)).map fun e => e.port := by
        intro p
        rw [List.any_eq_true, List.mem_map]
        exact ⟨fun ⟨e, he, h2⟩ => ⟨e, he, by simpa using h2⟩, fun ⟨e, he, h2⟩ => ⟨e, he, by simpa using h2⟩⟩
      have hpo := hn.po
      by_cases hfull : ((L.filter (frE n v_at)).length : Int) ≥ n.Ports
      · have p4 := pOut_full k ⟨n, now, nx, L⟩ v_at a b al (by omega) her (by simp only; omega) hoke hany hfull
        refine ⟨_, _, al, L, nx, out, last, now, p4, fun alR => ?_, h.mono Exl.rfl' (by omega), .inl rfl⟩
        obtain ⟨B, al2, q1, q2, q3⟩ := hrO alR
        obtain ⟨k1, k2, k3⟩ := hBok B q2
        obtain ⟨s, s1, s2, s3⟩ := portR_ok h1 ⟨n, out, last, now⟩ rfl a b B q2
        have hs := s3 hany
        subst hs
        refine ⟨al2, ?_⟩
        unfold m_laneref1_Translator_Out
        rw [tfR, sfR a ha, sfR b hb]
        simp only [bi_some]
        rw [rOut_er v_at ⟨n, out, last, now⟩ a b]
        simp only [bi_some, her, bne_self_eq_false, cond_false]
        rw [q1]
        simp only [bi_some]
        rw [small_gd (by omega), gd_true, s1]
        simp only [bi_some, beq_self_eq_true, cond_true]
        rw [decide_eq_false (show ¬ (B.length : Int) ≥ 2000 by omega)]
        simp only [cond_false]
        have hqq : (bif decide ((last : Int) > 0) then (some (wi (last + 1))) else (some n.First)) = some (qn n last) := by
          unfold qn
          have := hn.en
          by_cases hl0 : last > 0
          · rw [decide_eq_true hl0, if_pos hl0, wi_id (by omega) (by rcases h.lst with h0 | h0 <;> omega)]; rfl
          · rw [decide_eq_false hl0, if_neg hl0]; rfl
        rw [hqq]
        simp only [bi_some]
        rw [decide_eq_true (show n.Ports ≤ 9223372036854775807 by omega), gd_true]
        rw [(searchR_ok n hn (qn n last) hq B (by omega) k1).2 fun j hj => by rw [k3]; exact (hmem _).2 (hpf.1 hfull j hj)]
        rfl
      · rcases first_or (fun i => !((L.filter (frE n v_at)).any fun e => e.port == cyc n (qn n last) i)) n.Ports.toNat with ⟨i0, f1, f2, f3⟩ | hno
        · simp only [Bool.not_eq_true', Bool.not_eq_false'] at f2 f3
          obtain ⟨al1, p4, p5⟩ := pOut_new k ⟨n, now, nx, L⟩ v_at a b al hk hn her (by simp only; omega) hoke ts h.lv hany hfull (qn n last) h.nxt i0 (by omega) f2 f3
          simp only at p4 p5
          have hcy := cyc_in hn (qn n last) i0
          have hfi := hn.fi
          have hen := hn.en
          have hups : L.filter (frE n v_at) ++ [⟨a, cyc n (qn n last) i0, seenS b n.Maps, v_at, (al.length + 2, [b])⟩] = ups (kyE n a b) (updE v_at b (al.length + 2)) ⟨a, cyc n (qn n last) i0, seenS b n.Maps, v_at, (al.length + 2, [b])⟩ (L.filter (frE n v_at)) := (ups_none hany).symm
          rw [hups] at p4 p5
          refine ⟨_, _, al1, _, _, out ++ [⟨v_at, a, b, cyc n (qn n last) i0⟩], cyc n (qn n last) i0, v_at, p4, fun alR => ?_, h1.put hn a b (cyc n (qn n last) i0) (al.length + 2) (fun _ => ⟨hcy.1, hcy.2, fun hm => ?_⟩) p5 (by rw [← aft_cyc hn]; exact aft_qn hn hcy.1 hcy.2) (.inr hcy), .inr ⟨rfl, hcy.1, hcy.2⟩⟩
          · obtain ⟨B, al2, q1, q2, q3⟩ := hrO alR
            obtain ⟨k1, k2, k3⟩ := hBok B q2
            obtain ⟨s, s1, s2, s3⟩ := portR_ok h1 ⟨n, out, last, now⟩ rfl a b B q2
            have hs := s3 hany
            subst hs
            refine ⟨al2, ?_⟩
            unfold m_laneref1_Translator_Out
            rw [tfR, sfR a ha, sfR b hb]
            simp only [bi_some]
            rw [rOut_er v_at ⟨n, out, last, now⟩ a b]
            simp only [bi_some, her, bne_self_eq_false, cond_false]
            rw [q1]
            simp only [bi_some]
            rw [small_gd (by omega), gd_true, s1]
            simp only [bi_some, beq_self_eq_true, cond_true]
            rw [decide_eq_false (show ¬ (B.length : Int) ≥ 2000 by omega)]
            simp only [cond_false]
            have hqq : (bif decide ((last : Int) > 0) then (some (wi (last + 1))) else (some n.First)) = some (qn n last) := by
              unfold qn
              by_cases hl0 : last > 0
              · rw [decide_eq_true hl0, if_pos hl0, wi_id (by omega) (by rcases h.lst with h0 | h0 <;> omega)]; rfl
              · rw [decide_eq_false hl0, if_neg hl0]; rfl
            rw [hqq]
            simp only [bi_some]
            rw [decide_eq_true (show n.Ports ≤ 9223372036854775807 by omega), gd_true]
            rw [(searchR_ok n hn (qn n last) hq B (by omega) k1).1 i0 f1 (by rw [k3]; exact f2) fun j hj => by rw [k3]; exact f3 j hj]
            simp only [bi_some, lsN_out]
            rw [beq_eq_false_iff_ne.2 (show cyc n (qn n last) i0 ≠ 0 by omega)]
            simp only [cond_false, bi_some, orI_inl]
            rw [apd_some (by simp; omega)]
            rfl
          · rw [(hmem _).2 hm] at f2; cases f2
        · exfalso
          apply hfull
          refine hpf.2 fun j hj => (hmem _).1 ?_
          have := hno j hj
          simpa using this
  · refine ⟨zSpot, erZ v_at now a b, al, L, nx, out, last, now, pOut_err k ⟨n, now, nx, L⟩ v_at a b al (by omega) her, fun alR => ⟨alR, ?_⟩, h.mono Exl.rfl' (by omega), .inl rfl⟩
    unfold m_laneref1_Translator_Out
    rw [tfR, sfR a ha, sfR b hb]
    simp only [bi_some]
    rw [rOut_er v_at ⟨n, out, last, now⟩ a b]
    simp only [bi_some]
    rw [bne_iff_ne.2 her]
    rfl
end
end Go.Gk
