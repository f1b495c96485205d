/-
  THE GHOST LOGIC, PART 21: models: functions on plain data that may give nothing; loops read as such functions; operations on typed data.
-/
import Derived.Test.YtpgnhnjhpnbelaaGreatDoorGk20
set_option linter.unusedVariables false
set_option linter.unusedSimpArgs false
namespace Go.Gk

/-! ### Models -/
abbrev Str := List UInt8
def bi {α β : Type} (x : Option α) (f : α → Option β) : Option β := match x with
  | some a => f a
  | none => none
theorem bi_ok {α β : Type} {x : Option α} {f : α → Option β} {r : β} (h : bi x f = some r) : ∃ a, x = some a ∧ f a = some r := by
  cases x with
  | none => cases h
  | some a => exact ⟨a, rfl, h⟩
@[simp] theorem bi_some {α β : Type} (a : α) (f : α → Option β) : bi (some a) f = f a := rfl
@[simp] theorem bi_none {α β : Type} (f : α → Option β) : bi none f = none := rfl
theorem cT {α : Type} {c : Bool} {x y : α} {r : α} (h : (bif c then x else y) = r) (hc : c = true) : x = r := by subst hc; exact h
theorem cF {α : Type} {c : Bool} {x y : α} {r : α} (h : (bif c then x else y) = r) (hc : c = false) : y = r := by subst hc; exact h
/-- A condition that must hold. -/
def gd {α : Type} (c : Bool) (x : Option α) : Option α := bif c then x else none
theorem gd_ok {α : Type} {c : Bool} {x : Option α} {r : α} (h : gd c x = some r) : c = true ∧ x = some r := by
  cases c
  · cases h
  · exact ⟨rfl, h⟩
@[simp] theorem gd_true {α : Type} (x : Option α) : gd true x = x := rfl
def getZ {α : Type} (l : List α) : Int → Option α
  | .ofNat i => l[i]?
  | .negSucc _ => none
theorem getZ_ok {α : Type} {l : List α} {k : Int} {x : α} (h : getZ l k = some x) : ∃ i : Nat, k = (i : Int) ∧ i < l.length ∧ l[i]? = some x := by
  cases k with
  | ofNat i => exact ⟨i, rfl, (List.getElem?_eq_some_iff.1 h).1, h⟩
  | negSucc i => cases h
theorem getZ_nat {α : Type} {l : List α} {i : Nat} {x : α} (h : l[i]? = some x) : getZ l (i : Int) = some x := h
@[simp] theorem getZ_cast {α : Type} (l : List α) (i : Nat) : getZ l (i : Int) = l[i]? := rfl
def subZ {α : Type} (l : List α) (lo hi : Int) : Option (List α) := bif decide (0 ≤ lo) && decide (lo ≤ hi) && decide (hi ≤ (l.length : Int)) then some ((l.take hi.toNat).drop lo.toNat) else none
theorem subZ_ok {α : Type} {l r : List α} {lo hi : Int} (h : subZ l lo hi = some r) : ∃ a b : Nat, lo = (a : Int) ∧ hi = (b : Int) ∧ a ≤ b ∧ b ≤ l.length ∧ r = (l.take b).drop a := by
  unfold subZ at h
  cases hc : (decide (0 ≤ lo) && decide (lo ≤ hi) && decide (hi ≤ (l.length : Int))) with
  | false => rw [hc] at h; cases h
  | true =>
    rw [hc] at h
    simp only [Bool.and_eq_true, decide_eq_true_eq] at hc
    cases h
    exact ⟨lo.toNat, hi.toNat, by omega, by omega, by omega, by omega, rfl⟩
/-- Append, where room is sure to be had. -/
def apd {α : Type} (l m : List α) : Option (List α) := bif Nat.ble (l.length + m.length) 4294967296 then some (l ++ m) else none
theorem apd_ok {α : Type} {l m r : List α} (h : apd l m = some r) : r = l ++ m ∧ l.length + m.length ≤ 4294967296 := by
  unfold apd at h
  cases hc : Nat.ble (l.length + m.length) 4294967296 with
  | false => rw [hc] at h; cases h
  | true => rw [hc] at h; cases h; exact ⟨rfl, Nat.le_of_ble_eq_true hc⟩
def putZ {α : Type} (l : List α) (k : Int) (x : α) : Option (List α) := match k with
  | .ofNat i => bif Nat.blt i l.length then some (l.set i x) else none
  | .negSucc _ => none
theorem putZ_ok {α : Type} {l r : List α} {k : Int} {x : α} (h : putZ l k x = some r) : ∃ i : Nat, k = (i : Int) ∧ i < l.length ∧ r = l.set i x := by
  cases k with
  | ofNat i =>
    simp only [putZ] at h
    cases hc : Nat.blt i l.length with
    | false => rw [hc] at h; cases h
    | true => rw [hc] at h; cases h; exact ⟨i, rfl, nblt.1 hc, rfl⟩
  | negSucc i => cases h

inductive LS (σ ρ : Type) where
  | go (s : σ)
  | out (r : ρ)
def loopM {σ ρ : Type} (f : σ → Option (LS σ ρ)) : Nat → σ → Option ρ
  | 0, _ => none
  | k + 1, s => match f s with
    | some (.go s') => loopM f k s'
    | some (.out r) => some r
    | none => none
def rangeM {α σ ρ : Type} (f : Nat → α → σ → Option (LS σ ρ)) : Nat → List α → σ → Option (LS σ ρ)
  | _, [], s => some (.go s)
  | i, x :: l, s => match f i x s with
    | some (.go s') => rangeM f (i + 1) l s'
    | some (.out r) => some (.out r)
    | none => none
abbrev wi (n : Int) : Int := IntKind.i64.wrap n

/-! ### Loops -/
section
variable {P : Program} {Γ : TypeId → Option TI} {F N : Nat} {Q : GPost} {fr fr' : Fr} {hp : List Ob} {ks : List Kt}

theorem MidP.ex {fr1 : Fr} {ob1 : List Ob} (h : MidP F fr1 ob1 fr hp) : ∃ ex, fr1.Sub fr ∧ hp = ob1 ++ ex ∧ (ex = [] ∨ (HB ob1.length ob1 ∧ fr1.FB ob1.length ∧ F ≤ ob1.length)) := by
  obtain ⟨h1, ex, h2, h3⟩ := h
  exact ⟨ex, h1, h2, h3⟩

theorem j_loop {σ ρ : Type} {c : Code} {f : σ → Option (LS σ ρ)} {fuel : Nat} {s0 : σ} {r : ρ} (h : loopM f fuel s0 = some r) (st : σ → Fr) (ob : σ → List Ob) (hm : MidP F (st s0) (ob s0) fr hp)
    (round : ∀ s x, f s = some x → (∀ r', x = .out r' → r = r') → St.holds P F N Q (.code c (.mid (fun fr' hp' => ∃ s', x = .go s' ∧ MidP F (st s') (ob s') fr' hp') :: ks)) (st s) (ob s)) :
    St.holds P F N Q (.code (.loop c) ks) fr hp := by
  refine ew_weak hm ?_
  refine ew_loop (fun n fr hp => ∃ s, loopM f n s = some r ∧ fr = st s ∧ hp = ob s) fuel ⟨s0, h, rfl, rfl⟩ ?_
  rintro n fr hp ⟨s, hl, rfl, rfl⟩
  cases n with
  | zero => cases hl
  | succ n =>
    simp only [loopM] at hl
    cases hx : f s with
    | none => rw [hx] at hl; cases hl
    | some x =>
      rw [hx] at hl
      refine ew_mono (round s x hx fun r' e => by subst e; simp at hl; exact hl.symm) fun e fr' hp' h' => ?_
      cases e with
      | normal =>
        obtain ⟨s', rfl, hm'⟩ := h'
        obtain ⟨ex, h1, h2, h3⟩ := hm'.ex
        exact ⟨n, st s', ob s', ex, Nat.lt_succ_self n, ⟨s', hl, rfl, rfl⟩, h1, h2, h3⟩
      | _ => exact h'

theorem rangeM_cons {α σ ρ : Type} {f : Nat → α → σ → Option (LS σ ρ)} {l : List α} {i : Nat} {x : α} {s : σ} {r : LS σ ρ} (hx : l[i]? = some x) (h : rangeM f i (l.drop i) s = some r) :
    ∃ y, f i x s = some y ∧ (∀ r', y = .out r' → r = .out r') ∧ ∀ s', y = .go s' → rangeM f (i + 1) (l.drop (i + 1)) s' = some r := by
  have hlt := (List.getElem?_eq_some_iff.1 hx).1
  have e : l.drop i = x :: l.drop (i + 1) := by
    rw [List.drop_eq_getElem_cons hlt]
    have := (List.getElem?_eq_some_iff.1 hx).2
    rw [this]
  rw [e] at h
  simp only [rangeM] at h
  cases hy : f i x s with
  | none => rw [hy] at h; cases h
  | some y =>
    rw [hy] at h
    refine ⟨y, rfl, fun r' e => ?_, fun s' e => ?_⟩
    · subst e; simp at h; exact h.symm
    · subst e; exact h

theorem j_range {α σ ρ : Type} {c : Code} (l : List α) {f : Nat → α → σ → Option (LS σ ρ)} {s0 : σ} {r : LS σ ρ} (h : rangeM f 0 l s0 = some r) (st : Nat → σ → Fr) (ob : σ → List Ob) (hm : MidP F (st 0 s0) (ob s0) fr hp)
    (round : ∀ i x s y, l[i]? = some x → i < l.length → f i x s = some y → (∀ r', y = .out r' → r = .out r') → St.holds P F N Q (.code c (.mid (fun fr' hp' => ∃ s', y = .go s' ∧ MidP F (st (i + 1) s') (ob s') fr' hp') :: ks)) (st i s) (ob s))
    (done : ∀ s, r = .go s → St.holds P F N Q (.code c (.mid (fun _ _ => False) :: ks)) (st l.length s) (ob s)) :
    St.holds P F N Q (.code (.loop c) ks) fr hp := by
  refine ew_weak hm ?_
  refine ew_loop (fun n fr hp => ∃ i s, i ≤ l.length ∧ n = l.length - i ∧ rangeM f i (l.drop i) s = some r ∧ fr = st i s ∧ hp = ob s) l.length ⟨0, s0, Nat.zero_le _, rfl, h, rfl, rfl⟩ ?_
  rintro n fr hp ⟨i, s, hi, rfl, hl, rfl, rfl⟩
  by_cases hlt : i < l.length
  · have hx := List.getElem?_eq_getElem hlt
    obtain ⟨y, h1, h2, h3⟩ := rangeM_cons hx hl
    refine ew_mono (round i _ s y hx hlt h1 h2) fun e fr' hp' h' => ?_
    cases e with
    | normal =>
      obtain ⟨s', rfl, hm'⟩ := h'
      obtain ⟨ex, e1, e2, e3⟩ := hm'.ex
      exact ⟨l.length - (i + 1), st (i + 1) s', ob s', ex, by omega, ⟨i + 1, s', hlt, rfl, h3 s' rfl, rfl, rfl⟩, e1, e2, e3⟩
    | _ => exact h'
  · have : i = l.length := by omega
    subst this
    rw [List.drop_length] at hl
    simp only [rangeM] at hl
    refine ew_mono (done s (by cases hl; rfl)) fun e fr' hp' h' => ?_
    cases e with
    | normal => exact h'.elim
    | _ => exact h'

/-- How long data can be. -/
theorem j_bound {c : Code} {n : Nat} {xs : List D} (t : Nat) (ht : fr.get t = some (.d (.ro n xs))) (h : n ≤ 9223372036854775807 → St.holds P F N Q (.code c ks) fr hp) : St.holds P F N Q (.code c ks) fr hp := by
  intro Z w0 O0 M0 w M a hs ha hr
  refine h ?_ Z w0 O0 M0 w M a hs ha hr
  obtain ⟨v, _, hv⟩ := hr.fr t _ ht
  cases hv with
  | d hd =>
    cases hd with
    | nil => exact Nat.zero_le _
    | ro _ _ _ _ _ _ _ _ hn hm => exact Nat.le_trans (Nat.le_trans hn hm) (by decide)
theorem j_boundSl {c : Code} {n id : Nat} (t : Nat) (ht : fr.get t = some (.sl id n)) (h : n ≤ 9223372036854775807 → St.holds P F N Q (.code c ks) fr hp) : St.holds P F N Q (.code c ks) fr hp := by
  intro Z w0 O0 M0 w M a hs ha hr
  refine h ?_ Z w0 O0 M0 w M a hs ha hr
  obtain ⟨v, _, hv⟩ := hr.fr t _ ht
  cases hv with
  | sl _ hn hm => exact Nat.le_trans (Nat.le_trans hn hm) (by decide)
  | slnil _ => exact Nat.zero_le _

/-! ### Operations on typed data -/
variable {α : Type} {enc : α → List D} {ops : Array Oper} {rest : List Oper} {g : G}
variable {d : Tmp} {ty : TypeId} {pos : String} {after : Array Edge} {gd : Option (Nat × Bool)}

theorem op_elemZ (hΓ : TOK P Γ) {t e : TypeId} {i1 i2 : TI} {x y : Operand} {l : List α} {z : α} {kd : IntKind} {k : Int} (hz : getZ l k = some z) (h1 : Γ t = some i1) (h1' : i1.desc = .slice e) (h2 : Γ e = some i2) (hx : fr.ev x = some (.d (Sl enc l)))
    (hy : fr.ev y = some (.d (.v (.int kd k)))) (henc : ∀ y, (enc y).length = i2.size) : OpP P N ⟨some d, .indexAddr t x y, ty, pos, after, gd⟩ fr hp (.rp (enc z)) := by
  obtain ⟨i, rfl, hi, hz'⟩ := getZ_ok hz
  exact op_elem hΓ i h1 h1' h2 hx hy rfl hi (fun j d hd => flat_elem (sz := i2.size) (fun y _ => henc y) hz' j d hd)
theorem op_byteZ (hΓ : TOK P Γ) {t : TypeId} {i1 : TI} {x y : Operand} {l : List UInt8} {c : UInt8} {kd : IntKind} {k : Int} (hz : getZ l k = some c) (h1 : Γ t = some i1) (h1' : i1.desc = .string) (hx : fr.ev x = some (S l)) (hy : fr.ev y = some (.d (.v (.int kd k)))) :
    OpP P N ⟨some d, .index t x y, ty, pos, after, gd⟩ fr hp (.d (.v (.int .u8 c.toNat))) := by
  obtain ⟨i, rfl, hi, hz'⟩ := getZ_ok hz
  exact op_byte hΓ i h1 h1' hx hy rfl hz'
theorem op_elemRowZ (hΓ : TOK P Γ) {t e : TypeId} {i1 i2 : TI} {x y : Operand} {id n : Nat} {l : List α} {z : α} {kd : IntKind} {k : Int} (hz : getZ l k = some z) (h1 : Γ t = some i1) (h1' : i1.desc = .slice e) (h2 : Γ e = some i2) (hx : fr.ev x = some (.sl id n)) (hn : n = l.length)
    (hy : fr.ev y = some (.d (.v (.int kd k)))) : OpP P N ⟨some d, .indexAddr t x y, ty, pos, after, gd⟩ fr hp (.ptr id (k.toNat * i2.size)) := by
  obtain ⟨i, rfl, hi, hz'⟩ := getZ_ok hz
  exact op_elemRow hΓ i h1 h1' h2 hx hy rfl (by omega)
theorem op_subZ (hΓ : TOK P Γ) {t : TypeId} {i1 : TI} {x : Operand} {lo hi : Option Operand} {s r : List UInt8} {a b : Int} (hz : subZ s a b = some r) (h1 : Γ t = some i1) (h1' : i1.desc = .string) (hx : fr.ev x = some (S s)) (hlo : fr.bound lo 0 = some a) (hhi : fr.bound hi s.length = some b) :
    OpP P N ⟨some d, .slice t x lo hi none, ty, pos, after, gd⟩ fr hp (S r) := by
  obtain ⟨l, h, rfl, rfl, e1, e2, rfl⟩ := subZ_ok hz
  exact op_sub hΓ l h h1 h1' hx hlo hhi e1 e2
theorem flat_take {sz : Nat} (henc : ∀ y, (enc y).length = sz) : ∀ (l : List α) (n : Nat), (l.take n).flatMap enc = (l.flatMap enc).take (n * sz)
  | [], n => by simp
  | x :: l, 0 => by simp
  | x :: l, n + 1 => by
    rw [List.take_succ_cons, List.flatMap_cons, List.flatMap_cons, flat_take henc l n, List.take_append, henc x]
    have e : (n + 1) * sz - sz = n * sz := by rw [Nat.add_mul]; omega
    rw [e, List.take_of_length_le (l := enc x) (by rw [henc x, Nat.add_mul]; omega)]
theorem flat_drop {sz : Nat} (henc : ∀ y, (enc y).length = sz) : ∀ (l : List α) (n : Nat), (l.drop n).flatMap enc = (l.flatMap enc).drop (n * sz)
  | [], n => by simp
  | x :: l, 0 => by simp
  | x :: l, n + 1 => by
    rw [List.drop_succ_cons, List.flatMap_cons, flat_drop henc l n, List.drop_append, henc x]
    have e : (n + 1) * sz - sz = n * sz := by rw [Nat.add_mul]; omega
    rw [e, List.drop_eq_nil_of_le (show (enc x).length ≤ (n + 1) * sz by rw [henc x, Nat.add_mul]; omega), List.nil_append]
theorem flat_len {sz : Nat} (henc : ∀ y, (enc y).length = sz) (l : List α) : (l.flatMap enc).length = l.length * sz := flat_length fun y _ => henc y
theorem op_subRoZ (hΓ : TOK P Γ) {t e : TypeId} {i1 i2 : TI} {x : Operand} {lo hi : Option Operand} {l r : List α} {a b : Int} (hz : subZ l a b = some r) (h1 : Γ t = some i1) (h1' : i1.desc = .slice e) (h2 : Γ e = some i2) (hx : fr.ev x = some (.d (Sl enc l))) (hlo : fr.bound lo 0 = some a) (hhi : fr.bound hi l.length = some b) (henc : ∀ y, (enc y).length = i2.size) :
    OpP P N ⟨some d, .slice t x lo hi none, ty, pos, after, gd⟩ fr hp (.d (Sl enc r)) := by
  obtain ⟨n, h, rfl, rfl, e1, e2, rfl⟩ := subZ_ok hz
  have := op_subRo (P := P) (N := N) (hp := hp) (d := d) (ty := ty) (pos := pos) (after := after) (gd := gd) hΓ n h h1 h1' h2 hx hlo hhi e1 e2 (flat_len henc l)
  have e : Sl enc ((l.take h).drop n) = .ro (h - n) (((l.flatMap enc).take (h * i2.size)).drop (n * i2.size)) := by
    unfold Sl
    rw [flat_drop henc, flat_take henc]
    congr 1
    simp; omega
  rw [e]
  exact this
theorem op_loadRowZ (hΓ : TOK P Γ) {t tb : TypeId} {i : TI} {x : Operand} {id off sz n : Nat} {l : List α} {z : α} (j fo : Nat) (hz : l[j]? = some z) (hi : Γ t = some i) (hx : fr.ev x = some (.ptr id off)) (hoff : off = j * sz + fo) (ho : hp[id]? = some (.row tb sz n (l.flatMap enc))) (henc : ∀ y, (enc y).length = sz)
    (hg : loadD i ((enc z).drop fo) 0 = some g) : OpP P N ⟨some d, .load t x, ty, pos, after, gd⟩ fr hp g := by
  refine op_loadRow hΓ hi hx ho (fun k dd hd => ?_) hg
  rw [List.getElem?_drop] at hd
  rw [hoff, Nat.add_assoc]
  exact flat_elem (sz := sz) (fun y _ => henc y) hz _ _ hd

theorem flat_set {sz : Nat} (henc : ∀ y, (enc y).length = sz) {x x' : α} : ∀ {l : List α} {i : Nat}, l[i]? = some x → ∀ {fo : Nat} {nd : List D}, fo + nd.length ≤ sz → enc x' = setAt (enc x) fo nd → (l.set i x').flatMap enc = setAt (l.flatMap enc) (i * sz + fo) nd
  | [], i, h, _, _, _, _ => by simp at h
  | y :: l, 0, h, fo, nd, hf, he => by
    simp at h
    subst h
    have hy := henc y
    simp only [List.set_cons_zero, List.flatMap_cons, Nat.zero_mul, Nat.zero_add, he, setAt]
    rw [List.take_append_of_le_length (by omega), List.drop_append_of_le_length (by omega)]
    simp
  | y :: l, i + 1, h, fo, nd, hf, he => by
    have ih := flat_set henc (l := l) (i := i) (by simpa using h) hf he
    have hy := henc y
    simp only [List.set_cons_succ, List.flatMap_cons, ih]
    have e : (i + 1) * sz + fo = (enc y).length + (i * sz + fo) := by rw [hy, Nat.add_mul]; omega
    unfold setAt
    rw [e, List.take_length_add_append, show (enc y).length + (i * sz + fo) + nd.length = (enc y).length + (i * sz + (fo + nd.length)) by omega, List.drop_length_add_append, Nat.add_assoc]
    simp

/-- A store into an element of a row. -/
theorem eo_storeRowZ (hΓ : TOK P Γ) {t tb : TypeId} {x y : Operand} {i : TI} {id off sz : Nat} {l : List α} {z z' : α} {nd : List D} {new : List G} (j fo : Nat) (hz : l[j]? = some z) (hi : Γ t = some i) (hx : fr.ev x = some (.ptr id off)) (hoff : off = j * sz + fo) (ho : hp[id]? = some (.row tb sz l.length (l.flatMap enc)))
    (henc : ∀ y, (enc y).length = sz) (hy : fr.ev y = some g) (hg : cellsG g = some new) (hnd : toDs new = some nd) (he : enc z' = setAt (enc z) fo nd)
    (hsz : Nat.beq new.length i.size = true) (hfit : Nat.ble (fo + nd.length) sz = true) (hF : F ≤ hp.length)
    (k : EO P F N ops rest Q fr (hp.set id (.row tb sz (l.set j z').length ((l.set j z').flatMap enc)))) : EO P F N ops (⟨none, .store t x y, ty, pos, after, none⟩ :: rest) Q fr hp := by
  have hlt := (List.getElem?_eq_some_iff.1 hz).1
  have hf := Nat.le_of_ble_eq_true hfit
  have hfl := flat_len henc l
  have hle : (j + 1) * sz ≤ l.length * sz := Nat.mul_le_mul_right _ hlt
  rw [Nat.add_mul] at hle
  refine eo_storeRow hΓ hi hx ho hy hg hnd hsz (by rw [hfl, hoff]; omega) hF ?_
  rw [flat_set henc hz hf he, List.length_set, ← hoff] at k
  exact k

theorem eo_litT (hΓ : TOK P Γ) {t e : TypeId} {len : Nat} {i1 i2 : TI} {parts : Array (Nat × Operand)} {pg : List (Nat × G)} {gs : List G} (l : List α) (h1 : Γ t = some i1) (h1' : i1.desc = .slice e) (h2 : Γ e = some i2)
    (hz : (i2.zero.cells.toList.all (·.oneCell')) = true) (hz' : Nat.blt 0 i2.zero.cells.size = true) (hlen : Nat.ble (len * i2.size) 16777216 = true) (hlen' : Nat.ble len 16777216 = true) (hp' : evParts fr parts.toList = some pg) (hf : fillG (fun i => some (i * i2.size, i2.size)) (zerosG i2 len) pg = some gs) (hds : toDs gs = some (l.flatMap enc)) (hl : len = l.length)
    (hd : Nat.blt d N = true) (hF : F ≤ hp.length) (k : EO P F N ops rest Q ((d, .d (Sl enc l)) :: fr) hp) : EO P F N ops (⟨some d, .buildSlice t len parts, ty, pos, after, none⟩ :: rest) Q fr hp := by
  subst hl
  exact eo_lit hΓ h1 h1' h2 hz hz' hlen hlen' hp' hf hds hd hF k
theorem gl_litT (hΓ : TOK P Γ) {t e : TypeId} {len : Nat} {i1 i2 : TI} {parts : Array (Nat × Operand)} {pg : List (Nat × G)} {gs : List G} {QF : Fr → Prop} (l : List α) (h1 : Γ t = some i1) (h1' : i1.desc = .slice e) (h2 : Γ e = some i2)
    (hz : (i2.zero.cells.toList.all (·.oneCell')) = true) (hz' : Nat.blt 0 i2.zero.cells.size = true) (hlen : Nat.ble (len * i2.size) 16777216 = true) (hlen' : Nat.ble len 16777216 = true) (hp' : evParts (fr.only (Oper.looksAt ops ⟨some d, .buildSlice t len parts, ty, pos, after, none⟩)) parts.toList = some pg) (hf : fillG (fun i => some (i * i2.size, i2.size)) (zerosG i2 len) pg = some gs) (hds : toDs gs = some (l.flatMap enc)) (hl : len = l.length)
    (hd : Nat.blt d N = true) (k : GL P N hp ops QF rest ((d, .d (Sl enc l)) :: fr)) : GL P N hp ops QF (⟨some d, .buildSlice t len parts, ty, pos, after, none⟩ :: rest) fr := by
  subst hl
  exact gl_q hd (.inl rfl) (qt_lit hΓ h1 h1' h2 hz hz' hlen hlen' hp' hf hds) k
theorem eo_litRowT (hΓ : TOK P Γ) {t e : TypeId} {len : Nat} {i1 i2 : TI} {parts : Array (Nat × Operand)} {pg : List (Nat × G)} {gs : List G} (l : List α) (h1 : Γ t = some i1) (h1' : i1.desc = .slice e) (h2 : Γ e = some i2)
    (hz : (i2.zero.cells.toList.all (·.oneCell')) = true) (hz' : Nat.blt 0 i2.zero.cells.size = true) (hlen : Nat.ble (len * i2.size) 16777216 = true) (hlen' : Nat.ble len 16777216 = true) (hp' : evParts fr parts.toList = some pg) (hf : fillG (fun i => some (i * i2.size, i2.size)) (zerosG i2 len) pg = some gs) (hds : toDs gs = some (l.flatMap enc)) (hl : len = l.length)
    (hd : Nat.blt d N = true) (hF : F ≤ hp.length) (k : EO P F N ops rest Q ((d, .sl hp.length l.length) :: fr) (hp ++ [.row e i2.size l.length (l.flatMap enc)])) : EO P F N ops (⟨some d, .buildSlice t len parts, ty, pos, after, none⟩ :: rest) Q fr hp := by
  subst hl
  exact eo_litRow hΓ h1 h1' h2 hz hz' hlen hlen' hp' hf hds hd hF k

/-- A nil slice that is going to grow. -/
theorem eo_nilOwn {t : TypeId} (te : TypeId) (sz : Nat) (hd : Nat.blt d N = true) (hF : F ≤ hp.length) (k : EO P F N ops rest Q ((d, .sl hp.length 0) :: fr) (hp ++ [.row te sz 0 []])) :
    EO P F N ops (⟨some d, .assign (.const (.slice none 0 0)), ty, pos, after, none⟩ :: rest) Q fr hp := by
  refine eo_s hF (nblt.1 hd) (fun Z w M a hr => ?_) k
  have hr1 := hr.put (nblt.1 hd) (g := .d (.v (.slice none 0 0))) (v := .slice none 0 0) (.d (.v _ rfl))
  obtain ⟨M', h1, h2, h3⟩ := gh_ownNil (te := te) (sz := sz) d (by simp [Fr.get]) Z w M _ hr1
  obtain ⟨v, hv, hvr⟩ := h1.fr d (.sl hp.length 0) (by simp [Fr.get])
  have hvv : v = .slice none 0 0 := by
    have hlt : d < a.tmps.size := by rw [hr.size]; exact nblt.1 hd
    have : (a.put (some d) (.slice none 0 0)).tmps[d]? = some (.slice none 0 0) := by simp [Act.put, hlt]
    rw [this] at hv
    cases hv; rfl
  subst hvv
  exact ⟨.slice none 0 0, w, M', rfl, h1.heap, hvr, h2, h3⟩
end
end Go.Gk
