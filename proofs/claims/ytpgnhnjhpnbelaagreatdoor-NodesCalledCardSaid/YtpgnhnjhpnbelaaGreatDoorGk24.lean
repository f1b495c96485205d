/-
  THE GHOST LOGIC, PART 24: == on structs; rows that are cut short; bytes and strings; shifts.
-/
import Derived.Test.YtpgnhnjhpnbelaaGreatDoorGk23
import Derived.Laws.StructEq
set_option linter.unusedVariables false
set_option linter.unusedSimpArgs false
namespace Go.Gk

/-! ### == on structs -/
def eqFs (e : TypeId → G → G → Option Bool) (Γ : TypeId → Option TI) (xs ys : List G) : List Field → Option Bool
  | [] => some true
  | f :: fs => if f.name = "_" then eqFs e Γ xs ys fs else
    match (Γ f.type).bind fun i => (partG i xs f.offset).bind fun a => (partG i ys f.offset).bind fun b => e f.type a b, eqFs e Γ xs ys fs with
    | some a, some b => some (a && b)
    | _, _ => none
def eqG (Γ : TypeId → Option TI) (L : List Nat) : Nat → TypeId → G → G → Option Bool
  | 0, _, _, _ => none
  | d + 1, t, x, y => match Γ t with
    | some ⟨.struct fs, _, _, _⟩ => match x, y with
      | .agg xs, .agg ys => bif L.any (Nat.beq t) then eqFs (eqG Γ L d) Γ xs ys fs.toList else none
      | _, _ => none
    | some ⟨.int k, _, _, _⟩ => match x, y with
      | .d (.v (.int k1 a)), .d (.v (.int k2 b)) => if k1 = k2 then some (a == b) else none
      | _, _ => none
    | some ⟨.bool, _, _, _⟩ => match x, y with
      | .d (.v (.bool a)), .d (.v (.bool b)) => some (a == b)
      | _, _ => none
    | some ⟨.string, _, _, _⟩ => match x, y with
      | .d (.v (.string ⟨⟨a⟩⟩)), .d (.v (.string ⟨⟨b⟩⟩)) => some (a == b)
      | _, _ => none
    | _ => none

section
variable {P : Program} {Γ : TypeId → Option TI} {F N : Nat} {Q : GPost} {fr fr' : Fr} {hp : List Ob} {ks : List Kt}
variable {α : Type} {enc : α → List D} {ops : Array Oper} {rest : List Oper} {g : G}
variable {d : Tmp} {op : Op} {ty : TypeId} {pos : String} {after : Array Edge} {gd' : Option (Nat × Bool)}

theorem eqG_ok (hΓ : TOK P Γ) {L : List Nat} (hL : (L.all fun t => !P.stoodInHeld t) = true) {Z : Env} {M : Mp} {w : World} : ∀ (n m : Nat) (t : TypeId) (x y : G) (v u : Value) (b : Bool), eqG Γ L n t x y = some b → n ≤ m →
    VR w (ownZ Z hp M) M x v → VR w (ownZ Z hp M) M y u → (Op.equalIn m t v u).run P w = .ok b w
  | 0, m, t, x, y, v, u, b, h, _, _, _ => by cases h
  | n + 1, 0, t, x, y, v, u, b, h, hm, _, _ => by omega
  | n + 1, m + 1, t, x, y, v, u, b, h, hm, hv, hu => by
    simp only [eqG] at h
    split at h
    · rename_i fs sz by_ z hi
      split at h
      · rename_i xs ys
        cases hc : L.any (Nat.beq t) with
        | false => rw [hc] at h; cases h
        | true =>
          rw [hc] at h
          simp only [cond_true] at h
          obtain ⟨t', ht', hb⟩ := List.any_eq_true.1 hc
          have := Nat.eq_of_beq_eq_true hb
          subst this
          have hs : P.stoodInHeld t = false := by simpa using List.all_eq_true.1 hL t ht'
          obtain ⟨hu', _⟩ := hΓ t _ hi
          have hfs : P.fieldsOf t = fs := by unfold Program.fieldsOf; rw [hu']
          have hpr := hv
          have hpr' := hu
          cases hv with
          | agg l1 r1 =>
            cases hu with
            | agg l2 r2 =>
              rename_i c1 c2
              rw [run_equalIn_agg w m t c1 c2 (by rw [hfs]; exact hu') hs, hfs]
              generalize fs.toList = l at h
              clear hfs hu' hi
              induction l generalizing b with
              | nil => cases h; simp [Op.eqFields]
              | cons f l ih =>
                simp only [eqFs] at h
                simp only [Op.eqFields]
                by_cases hn : f.name = "_"
                · rw [if_pos hn] at h
                  simp only [hn, ne_eq, not_true_eq_false, if_false]
                  exact ih b h
                · rw [if_neg hn] at h
                  simp only [ne_eq, hn, not_false_eq_true, if_true]
                  cases hti : Γ f.type with
                  | none => rw [hti] at h; simp at h
                  | some i =>
                    rw [hti] at h
                    simp only [Option.bind_some] at h
                    cases ha : partG i xs f.offset with
                    | none => rw [ha] at h; simp at h
                    | some ga =>
                      cases hb' : partG i ys f.offset with
                      | none => rw [ha, hb'] at h; simp at h
                      | some gb =>
                        rw [ha, hb'] at h
                        simp only [Option.bind_some] at h
                        cases he : eqG Γ L n f.type ga gb with
                        | none => rw [he] at h; simp at h
                        | some q =>
                          cases hr : eqFs (eqG Γ L n) Γ xs ys l with
                          | none => rw [he, hr] at h; simp at h
                          | some r =>
                            rw [he, hr] at h
                            cases h
                            obtain ⟨va, e1, e2⟩ := part_ok (P := P) (hp := hp) hΓ hti hpr ha
                            obtain ⟨vb, e3, e4⟩ := part_ok (P := P) (hp := hp) hΓ hti hpr' hb'
                            have e5 := eqG_ok hΓ hL n m f.type ga gb va vb q he (by omega) e2 e4
                            have e6 := ih r hr
                            simp only [Sem.run_bind, e1, e3, e5, Result.andThen_ok]
                            cases q
                            · simp
                            · simpa using e6
      · cases h
    · rename_i k _ _ _ hi
      obtain ⟨hu', _⟩ := hΓ t _ hi
      split at h
      · rename_i k1 a k2 b'
        split at h
        · rename_i hk
          subst hk
          cases h
          rw [vr_v hv, vr_v hu]
          exact run_equalIn_int w m t k1 k a b' hu'
        · cases h
      · cases h
    · rename_i hi
      obtain ⟨hu', _⟩ := hΓ t _ hi
      split at h
      · rename_i a b'
        cases h
        rw [vr_v hv, vr_v hu]
        exact run_equalIn_bool' w m t a b' hu'
      · cases h
    · rename_i hi
      obtain ⟨hu', _⟩ := hΓ t _ hi
      split at h
      · rename_i a b'
        cases h
        rw [vr_v hv, vr_v hu]
        have := run_equalIn_string (P := P) w m t ⟨⟨a⟩⟩ ⟨⟨b'⟩⟩ hu'
        rw [toList_mk', toList_mk'] at this
        exact this
      · cases h
    · cases h

theorem op_eqS (hΓ : TOK P Γ) (L : List Nat) {t t' : TypeId} {x y : Operand} {xs ys : List G} {b : Bool} (hL : (L.all fun t => !P.stoodInHeld t) = true) (hm : P.eqGuardType P.depth t = false) (hx : fr.ev x = some (.agg xs)) (hy : fr.ev y = some (.agg ys)) (he : eqG Γ L 9 t (.agg xs) (.agg ys) = some b) :
    OpP P N ⟨some d, .binOp .eql t x y t', ty, pos, after, gd'⟩ fr hp (B b) := fun Z w M a hr => by
  have h1 := hr.ev hx
  have h2 := hr.ev hy
  have h3 := eqG_ok (P := P) (hp := hp) hΓ hL 9 10000 t _ _ _ _ b he (by decide) h1 h2
  generalize hvx : a.eval x = vx at *
  generalize hvy : a.eval y = vy at *
  cases h1 with
  | agg l1 r1 =>
    cases h2 with
    | agg l2 r2 =>
      refine ⟨.bool b, ?_, .d (.v _ rfl)⟩
      simp only [execOp, hvx, hvy, Sem.run_bind, run_eqGuard_agg w _ t _ _ _ _ hm, Result.andThen_ok, run_eql_struct, h3]
      rfl
theorem op_neS (hΓ : TOK P Γ) (L : List Nat) {t t' : TypeId} {x y : Operand} {xs ys : List G} {b : Bool} (hL : (L.all fun t => !P.stoodInHeld t) = true) (hm : P.eqGuardType P.depth t = false) (hx : fr.ev x = some (.agg xs)) (hy : fr.ev y = some (.agg ys)) (he : eqG Γ L 9 t (.agg xs) (.agg ys) = some b) :
    OpP P N ⟨some d, .binOp .neq t x y t', ty, pos, after, gd'⟩ fr hp (B !b) := fun Z w M a hr => by
  have h1 := hr.ev hx
  have h2 := hr.ev hy
  have h3 := eqG_ok (P := P) (hp := hp) hΓ hL 9 10000 t _ _ _ _ b he (by decide) h1 h2
  generalize hvx : a.eval x = vx at *
  generalize hvy : a.eval y = vy at *
  cases h1 with
  | agg l1 r1 =>
    cases h2 with
    | agg l2 r2 =>
      refine ⟨.bool !b, ?_, .d (.v _ rfl)⟩
      simp only [execOp, hvx, hvy, Sem.run_bind, run_eqGuard_agg w _ t _ _ _ _ hm, Result.andThen_ok, run_neq_struct, h3]
      rfl

/-! ### Shifts by amounts that are not told -/
def shlZ (k : IntKind) (a : Int) (b : Int) : Option Int := match b with
  | .ofNat n => some (shlV k a n)
  | _ => none
def shrZ (k : IntKind) (a : Int) (b : Int) : Option Int := match b with
  | .ofNat n => some (shrV k a n)
  | _ => none
theorem op_shlZ {t t' : TypeId} {x y : Operand} {k k' : IntKind} {m n r : Int} (hz : shlZ k m n = some r) (hx : fr.ev x = some (.d (.v (.int k m)))) (hy : fr.ev y = some (.d (.v (.int k' n)))) : OpP P N ⟨some d, .binOp .shl t x y t', ty, pos, after, gd'⟩ fr hp (.d (.v (.int k r))) := by
  intro Z w M a hr
  refine ⟨_, ?_, .d (.v _ rfl)⟩
  have : binV .shl (.int k m) (.int k' n) = some (.int k r) := by
    simp only [binV, binI]
    unfold shlZ at hz
    split at hz <;> simp_all
  have := binV_ok (P := P) (t := t) (x := x) (y := y) this w
  simp only [execOp, hr.ev_v hx, hr.ev_v hy]
  rw [Sem.run_bind, this]
  rfl
theorem op_shrZ {t t' : TypeId} {x y : Operand} {k k' : IntKind} {m n r : Int} (hz : shrZ k m n = some r) (hx : fr.ev x = some (.d (.v (.int k m)))) (hy : fr.ev y = some (.d (.v (.int k' n)))) : OpP P N ⟨some d, .binOp .shr t x y t', ty, pos, after, gd'⟩ fr hp (.d (.v (.int k r))) := by
  intro Z w M a hr
  refine ⟨_, ?_, .d (.v _ rfl)⟩
  have : binV .shr (.int k m) (.int k' n) = some (.int k r) := by
    simp only [binV, binI]
    unfold shrZ at hz
    split at hz <;> simp_all
  have := binV_ok (P := P) (t := t) (x := x) (y := y) this w
  simp only [execOp, hr.ev_v hx, hr.ev_v hy]
  rw [Sem.run_bind, this]
  rfl

/-! ### The first part of a row -/
theorem ObR.trim {w : World} {O : Nat → Prop} {M : Mp} {te : TypeId} {sz n h : Nat} {ds : List D} {m : Option (Nat × Nat)} (hh : h ≤ n) (ho : ObR w O M (.row te sz n ds) m) : ObR w O M (.row te sz h (ds.take (h * sz))) m := by
  match m, ho with
  | some (b, c), ⟨h0, cs, h1, h2, h3, h4, hc⟩ =>
    have : h * sz ≤ n * sz := Nat.mul_le_mul_right _ hh
    exact ⟨by simp; omega, cs, h1, h2, by omega, h4, fun j d hd => hc j d (by rw [List.getElem?_take] at hd; split at hd <;> simp_all)⟩
  | none, ⟨h1, h2⟩ => exact ⟨by subst h1; simp, by omega⟩
theorem gh_trim {te : TypeId} {sz n : Nat} {ds : List D} (id h : Nat) (hh : h ≤ n) (ho : hp[id]? = some (.row te sz n ds)) : ∀ Z w M a, Rel Z hp M w fr a N →
    ∃ M', Rel Z (hp.set id (.row te sz h (ds.take (h * sz)))) M' w fr a N ∧ Stp w (own hp M) w (own (hp.set id (.row te sz h (ds.take (h * sz)))) M') ∧ Agr hp.length M M' := by
  intro Z w M a hr
  have hid : id < hp.length := (List.getElem?_eq_some_iff.1 ho).1
  have hold : ∀ (i : Nat) (o : Ob), (hp.set id (.row te sz h (ds.take (h * sz))))[i]? = some o → ∃ o0 : Ob, hp[i]? = some o0 ∧ o0.live = o.live := fun i o h1 => by
    by_cases hi : i = id
    · subst hi; simp [hid] at h1; subst h1; exact ⟨_, ho, rfl⟩
    · rw [List.getElem?_set_ne (Ne.symm hi)] at h1; exact ⟨o, h1, rfl⟩
  have hnew : ∀ (i : Nat) (o : Ob), hp[i]? = some o → ∃ o1 : Ob, (hp.set id (.row te sz h (ds.take (h * sz))))[i]? = some o1 ∧ o1.live = o.live := fun i o h1 => by
    by_cases hi : i = id
    · subst hi; rw [ho] at h1; cases h1; exact ⟨.row te sz h (ds.take (h * sz)), by simp [hid], rfl⟩
    · exact ⟨o, by rw [List.getElem?_set_ne (Ne.symm hi)]; exact h1, rfl⟩
  have hO : own (hp.set id (.row te sz h (ds.take (h * sz)))) M = own hp M := by
    funext b
    apply propext
    constructor
    · rintro ⟨i, o, c, h1, h2, h3⟩
      obtain ⟨o0, e1, e2⟩ := hold i o h1
      exact ⟨i, o0, c, e1, by rw [e2]; exact h2, h3⟩
    · rintro ⟨i, o, c, h1, h2, h3⟩
      obtain ⟨o1, e1, e2⟩ := hnew i o h1
      exact ⟨i, o1, c, e1, by rw [e2]; exact h2, h3⟩
  have hOZ : ownZ Z (hp.set id (.row te sz h (ds.take (h * sz)))) M = ownZ Z hp M := by unfold ownZ; rw [hO]
  refine ⟨M, ⟨⟨by simp [hr.heap.len], fun i o m h1 h2 => ?_, fun b hb => hr.heap.apart b (by rw [hO] at hb; exact hb), hr.heap.old, hr.heap.amb, fun i j oi oj b c c' hi hj li lj mi mj => ?_⟩, fun t g h => by rw [hOZ]; exact hr.fr t g h, hr.size, hr.defers⟩, by rw [hO]; exact Stp.refl _ _, ⟨Nat.le_of_eq hr.heap.len.symm, fun _ _ => rfl⟩⟩
  · rw [hOZ]
    by_cases hi : i = id
    · subst hi; simp [hid] at h1; subst h1; exact (hr.heap.obj i _ m ho h2).trim hh
    · rw [List.getElem?_set_ne (Ne.symm hi)] at h1; exact hr.heap.obj i o m h1 h2
  · obtain ⟨o1, e1, e2⟩ := hold i oi hi
    obtain ⟨o2, e3, e4⟩ := hold j oj hj
    exact hr.heap.inj i j o1 o2 b c c' e1 e3 (by rw [e2]; exact li) (by rw [e4]; exact lj) mi mj
/-- s[:h] of a row: what lies behind is let go. -/
theorem eo_subRowZ (hΓ : TOK P Γ) {t e : TypeId} {i1 i2 : TI} {x : Operand} {lo hi : Option Operand} {n id : Nat} {l r : List α} {b : Int} (hz : subZ l 0 b = some r) (h1 : Γ t = some i1) (h1' : i1.desc = .slice e) (h2 : Γ e = some i2) (hx : fr.ev x = some (.sl id n)) (hn : n = l.length) (ho : hp[id]? = some (.row e i2.size l.length (l.flatMap enc))) (hlo : fr.bound lo 0 = some (0 : Int)) (hhi : fr.bound hi n = some b) (henc : ∀ y, (enc y).length = i2.size)
    (hd : Nat.blt d N = true) (hF : F ≤ hp.length) (k : EO P F N ops rest Q ((d, .sl id r.length) :: fr) (hp.set id (.row e i2.size r.length (r.flatMap enc)))) : EO P F N ops (⟨some d, .slice t x lo hi none, ty, pos, after, none⟩ :: rest) Q fr hp := by
  obtain ⟨a, h, ha, rfl, e1, e2, rfl⟩ := subZ_ok hz
  obtain rfl : a = 0 := by omega
  simp only [List.drop_zero] at k
  have hlen : (l.take h).length = h := by simp; omega
  rw [hlen] at k
  refine eo_subRow hΓ h h1 h1' h2 hx hlo (by rw [hhi]) (by omega) hd ?_
  refine eo_ghost hF (gh_trim id h e2 ho) ?_
  rw [← flat_take henc]
  exact k

/-! ### Bytes and strings -/
/-- A string of bytes that are told as numbers. -/
def strB : List Int → Option Str
  | [] => some []
  | z :: l => bif decide (0 ≤ z) && decide (z < 256) then (strB l).map fun r => UInt8.ofNat z.toNat :: r else none
theorem strB_ok : ∀ {l : List Int} {r : Str}, strB l = some r → l = r.map fun b => (b.toNat : Int)
  | [], r, h => by cases h; rfl
  | z :: l, r, h => by
    simp only [strB] at h
    cases hc : (decide (0 ≤ z) && decide (z < 256)) with
    | false => rw [hc] at h; cases h
    | true =>
      rw [hc] at h
      simp only [Bool.and_eq_true, decide_eq_true_eq] at hc
      obtain ⟨q, hq, rfl⟩ := Option.map_eq_some_iff.1 h
      rw [strB_ok hq]
      simp only [List.map_cons]
      congr 1
      have : z.toNat < 256 := by omega
      simp [UInt8.toNat_ofNat, Nat.mod_eq_of_lt this]
      omega
/-- The bytes of a string, as numbers. -/
def bytesOf (s : Str) : List Int := s.map fun b => (b.toNat : Int)
theorem flat_u8 (r : Str) : (r.map fun b => (b.toNat : Int)).flatMap (eN .u8) = r.map fun b => D.v (.int .u8 b.toNat) := by
  induction r with
  | nil => rfl
  | cons x r ih => simp only [List.map_cons, List.flatMap_cons, ih]; rfl
theorem op_strRowZ (hΓ : TOK P Γ) {s t e tb : TypeId} {i1 i2 i3 : TI} {x : Operand} {id n : Nat} {l : List Int} {r : Str} (hz : strB l = some r) (h1 : Γ s = some i1) (h1' : i1.desc = .slice e) (h2 : Γ e = some i2) (h2' : i2.desc = .int .u8) (h3 : Γ t = some i3) (h3' : i3.desc = .string)
    (hx : fr.ev x = some (.sl id n)) (hn : n = l.length) (ho : hp[id]? = some (.row tb 1 l.length (l.flatMap (eN .u8)))) : OpP P N ⟨some d, .convert s t x, ty, pos, after, gd'⟩ fr hp (S r) := by
  have e := strB_ok hz
  refine op_strRow hΓ r h1 h1' h2 h2' h3 h3' hx ho (by rw [hn, e]; simp) (fun j b hj => ?_)
  rw [e, flat_u8, List.getElem?_map, hj]
  rfl
end
end Go.Gk
