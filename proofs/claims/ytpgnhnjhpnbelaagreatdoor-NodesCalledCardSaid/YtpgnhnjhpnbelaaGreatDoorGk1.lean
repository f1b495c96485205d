/-
  THE GHOST LOGIC, PART 1: values, memory and frames as plain data, and what it means that a world reads as them.
-/
import Derived.Test.YtpgnhnjhpnbelaaGreatDoorGk0
import Derived.WalkKit
import Derived.Laws.AppendOwn
import Derived.Orders
import Derived.Deep.LoopGhost
set_option linter.unusedVariables false
namespace Go.Gk

/-- Data: no names of memory in it. -/
inductive D where
  | v (x : Value)
  | ro (n : Nat) (xs : List D)

/-- What a temporary or a cell holds. -/
inductive G where
  | d (x : D)
  | agg (xs : List G)
  | ptr (id off : Nat)
  | rp (xs : List D)
  | sl (id n : Nat)
  | slo (id sz o n : Nat)
  | map (id : Nat)
  | fn (f : Fn) (first cap : List G)
  | tup (xs : List G)
  | junk

/-- An object of the call's own. -/
inductive Ob where
  | box (t : TypeId) (gs : List G)
  | row (t : TypeId) (sz n : Nat) (ds : List D)
  | map (agg : Bool) (es : List (Value × List D))
  | dead

def Ob.live : Ob → Bool
  | .dead => false
  | _ => true

abbrev Mp := List (Option (Nat × Nat))
abbrev Fr := List (Nat × G)

def Fr.get : Fr → Nat → Option G
  | [], _ => none
  | (k, g) :: r, t => bif Nat.beq k t then some g else Fr.get r t

/-- Data read off immutable memory: the blocks outside 'O'. -/
inductive VD (w : World) (O : Nat → Prop) : D → Value → Prop
  | v (x : Value) (h : x.oneCell' = true) : VD w O (.v x) x
  | nil : VD w O (.ro 0 []) (.slice none 0 0)
  | ro (n : Nat) (xs : List D) (b off cap : Nat) (vs : Nat → Value) (hb : b < w.heap.size) (hO : ¬ O b) (hn : n ≤ cap) (hm : cap ≤ maxLen)
      (hc : ∀ j d, xs[j]? = some d → w.cell? ⟨b, off + j, none⟩ = some (vs j))
      (hv : ∀ j d, xs[j]? = some d → VD w O d (vs j)) : VD w O (.ro n xs) (.slice (some ⟨b, off, none⟩) n cap)

inductive VR (w : World) (O : Nat → Prop) (M : Mp) : G → Value → Prop
  | d {x : D} {v : Value} (h : VD w O x v) : VR w O M (.d x) v
  | agg {gs : List G} {vs : Array Value} (hl : vs.size = gs.length) (h : ∀ (j : Nat) (g : G) (v : Value), gs[j]? = some g → vs[j]? = some v → VR w O M g v) : VR w O M (.agg gs) (.agg vs)
  | ptr {id off b c : Nat} (h : M[id]? = some (some (b, c))) : VR w O M (.ptr id off) (.pointer (some ⟨b, off, none⟩))
  | rp {xs : List D} {b off : Nat} (vs : Nat → Value) (hb : b < w.heap.size) (hO : ¬ O b)
      (hc : ∀ j d, xs[j]? = some d → w.cell? ⟨b, off + j, none⟩ = some (vs j))
      (hv : ∀ j d, xs[j]? = some d → VD w O d (vs j)) : VR w O M (.rp xs) (.pointer (some ⟨b, off, none⟩))
  | sl {id n b c : Nat} (h : M[id]? = some (some (b, c))) (hn : n ≤ c) (hm : c ≤ maxLen) : VR w O M (.sl id n) (.slice (some ⟨b, 0, none⟩) n c)
  | slnil {id : Nat} (h : M[id]? = some none) : VR w O M (.sl id 0) (.slice none 0 0)
  | slo {id sz o n b c : Nat} (h : M[id]? = some (some (b, c))) (hn : o + n ≤ c) (hm : c ≤ maxLen) : VR w O M (.slo id sz o n) (.slice (some ⟨b, if c = o then 0 else o * sz, none⟩) n (c - o))
  | slonil {id sz : Nat} (h : M[id]? = some none) : VR w O M (.slo id sz 0 0) (.slice none 0 0)
  | map {id b c : Nat} (h : M[id]? = some (some (b, c))) : VR w O M (.map id) (.map (some b))
  | fn {f : Fn} {g1 g2 : List G} {v1 v2 : Array Value} (l1 : v1.size = g1.length) (l2 : v2.size = g2.length)
      (h1 : ∀ (j : Nat) (g : G) (v : Value), g1[j]? = some g → v1[j]? = some v → VR w O M g v) (h2 : ∀ (j : Nat) (g : G) (v : Value), g2[j]? = some g → v2[j]? = some v → VR w O M g v) : VR w O M (.fn f g1 g2) (.func f v1 v2)
  | tup {gs : List G} {vs : Array Value} (hl : vs.size = gs.length) (h : ∀ (j : Nat) (g : G) (v : Value), gs[j]? = some g → vs[j]? = some v → VR w O M g v) : VR w O M (.tup gs) (.tuple vs)
  | junk (v : Value) : VR w O M .junk v

/-- The blocks that the objects lie in. -/
def own (hp : List Ob) (M : Mp) (b : Nat) : Prop := ∃ (i : Nat) (o : Ob) (c : Nat), hp[i]? = some o ∧ o.live = true ∧ M[i]? = some (some (b, c))

/-- The cells of a block read so, one by one. -/
def CellsR (w : World) (O : Nat → Prop) (M : Mp) (cs : Array Value) (gs : List G) : Prop :=
  ∀ (j : Nat) (g : G), gs[j]? = some g → ∃ v : Value, cs[j]? = some v ∧ v.oneCell' = true ∧ VR w O M g v

def DataR (w : World) (O : Nat → Prop) (cs : Array Value) (ds : List D) : Prop :=
  ∀ (j : Nat) (d : D), ds[j]? = some d → ∃ v : Value, cs[j]? = some v ∧ VD w O d v

/-- A value of data, in cells. -/
def DV (w : World) (O : Nat → Prop) (agg : Bool) (ds : List D) (v : Value) : Prop := match agg with
  | true => ∃ cs : Array Value, v = .agg cs ∧ cs.size = ds.length ∧ ∀ (j : Nat) (d : D) (u : Value), ds[j]? = some d → cs[j]? = some u → VD w O d u
  | false => ∃ d, ds = [d] ∧ VD w O d v
/-- The entries of a map were born one after the other. -/
def Born (ms : Array MapEntry) (clock : Nat) : Prop := (∀ (i j : Nat) (e e' : MapEntry), ms[i]? = some e → ms[j]? = some e' → e.born = e'.born → i = j) ∧ ∀ (i : Nat) (e : MapEntry), ms[i]? = some e → e.born < clock
def ObR (w : World) (O : Nat → Prop) (M : Mp) : Ob → Option (Nat × Nat) → Prop
  | .box t gs, some (b, _) => ∃ cs, w.heap[b]? = some (.cells cs t (0, 0)) ∧ cs.size = gs.length ∧ CellsR w O M cs gs
  | .box _ _, none => False
  | .row t sz n ds, some (b, c) => ds.length = n * sz ∧ ∃ cs, w.heap[b]? = some (.cells cs t (0, 0)) ∧ cs.size = c * sz ∧ n ≤ c ∧ c ≤ maxLen ∧ DataR w O cs ds
  | .row _ _ n ds, none => ds = [] ∧ n = 0
  | .map agg es, some (b, _) => ∃ ms clock, w.heap[b]? = some (.map ms clock) ∧ ms.size = es.length ∧ Born ms clock ∧ ∀ (j : Nat) (k : Value) (ds : List D), es[j]? = some (k, ds) → ∃ e : MapEntry, ms[j]? = some e ∧ e.key = k ∧ DV w O agg ds e.val
  | .map _ _, none => False
  | .dead, _ => True

/-- What lies around: blocks that stay as they are (z), some of them not to be read as data (v), and what is known of them (package-level variables, say). -/
structure Env where
  z : Nat → Prop
  v : Nat → Prop
  hv : ∀ b, v b → z b
  x : World → Prop
  st : ∀ w w' : World, (∀ b, z b → w'.heap[b]? = w.heap[b]?) → x w → x w'
  ax : ∀ w : World, x w → TabX w
instance : CoeFun Env (fun _ => Nat → Prop) := ⟨Env.z⟩
/-- What is not to be read as data: the objects' blocks, and those that others hold. -/
def ownZ (Z : Env) (hp : List Ob) (M : Mp) (b : Nat) : Prop := own hp M b ∨ Z.v b

structure RelH (Z : Env) (hp : List Ob) (M : Mp) (w : World) : Prop where
  len : M.length = hp.length
  obj : ∀ (i : Nat) (o : Ob) (m : Option (Nat × Nat)), hp[i]? = some o → M[i]? = some m → ObR w (ownZ Z hp M) M o m
  apart : ∀ b, own hp M b → ¬ Z b
  old : ∀ b, Z b → b < w.heap.size
  amb : Z.x w
  inj : ∀ (i j : Nat) (oi oj : Ob) (b c c' : Nat), hp[i]? = some oi → hp[j]? = some oj → oi.live = true → oj.live = true → M[i]? = some (some (b, c)) → M[j]? = some (some (b, c')) → i = j

/-- From one world to a later one: what is not owned has not turned; nothing old has become owned. -/
structure Stp (w : World) (A : Nat → Prop) (w' : World) (A' : Nat → Prop) : Prop where
  size : w.heap.size ≤ w'.heap.size
  keep : ∀ b, b < w.heap.size → ¬ A b → w'.heap[b]? = w.heap[b]?
  own : ∀ b, b < w.heap.size → A' b → A b
  os : w'.os = w.os
  tape : w'.tape = w.tape
  output : w'.output = w.output

theorem Stp.refl (w : World) (O : Nat → Prop) : Stp w O w O := ⟨Nat.le_refl _, fun _ _ _ => rfl, fun _ _ h => h, rfl, rfl, rfl⟩
theorem Stp.trans {w O w1 O1 w2 O2} (h : Stp w O w1 O1) (k : Stp w1 O1 w2 O2) : Stp w O w2 O2 :=
  ⟨Nat.le_trans h.size k.size,
   fun b hb hO => (k.keep b (Nat.lt_of_lt_of_le hb h.size) (fun h1 => hO (h.own b hb h1))).trans (h.keep b hb hO),
   fun b hb h2 => h.own b hb (k.own b (Nat.lt_of_lt_of_le hb h.size) h2),
   k.os.trans h.os, k.tape.trans h.tape, k.output.trans h.output⟩
/-- The same beside what others hold. -/
theorem Stp.beside {w A w' A'} (h : Stp w A w' A') (Z : Nat → Prop) : Stp w (fun b => A b ∨ Z b) w' (fun b => A' b ∨ Z b) :=
  ⟨h.size, fun b hb hO => h.keep b hb fun h1 => hO (.inl h1), fun b hb h1 => h1.imp (h.own b hb) id, h.os, h.tape, h.output⟩
theorem stp_z {w w' : World} {hp hp' : List Ob} {M M' : Mp} (Z : Env) (h : Stp w (Gk.own hp M) w' (Gk.own hp' M')) : Stp w (ownZ Z hp M) w' (ownZ Z hp' M') := h.beside Z.v
theorem RelH.amb_stp {Z : Env} {hp : List Ob} {M : Mp} {w w' : World} {A' : Nat → Prop} (hr : RelH Z hp M w) (h : Stp w (Gk.own hp M) w' A') : Z.x w' :=
  Z.st w w' (fun b hb => h.keep b (hr.old b hb) fun ho => hr.apart b ho hb) hr.amb

theorem VD.step {w O w' O'} (h : Stp w O w' O') {x : D} {v : Value} (hv : VD w O x v) : VD w' O' x v := by
  induction hv with
  | v x h1 => exact .v x h1
  | nil => exact .nil
  | ro n xs b off cap vs hb hO hn hm hc _ ih =>
    refine .ro n xs b off cap vs (Nat.lt_of_lt_of_le hb h.size) (fun h1 => hO (h.own b hb h1)) hn hm (fun j d hd => ?_) ih
    rw [← hc j d hd]
    exact World.cell?_of_block (h.keep b hb hO)

theorem DV.step {w O w' O'} (h : Stp w O w' O') {agg : Bool} {ds : List D} {v : Value} (hv : DV w O agg ds v) : DV w' O' agg ds v := by
  cases agg with
  | true => exact let ⟨cs, h1, h2, h3⟩ := hv; ⟨cs, h1, h2, fun j d u hd hu => (h3 j d u hd hu).step h⟩
  | false => exact let ⟨d, h1, h2⟩ := hv; ⟨d, h1, h2.step h⟩
theorem VD.one {w O} {x : D} {v : Value} (hv : VD w O x v) : v.oneCell' = true := by
  cases hv <;> first | assumption | rfl

/-- The frame's and the objects' readings stay, if no name of theirs has turned. -/
theorem VR.step {w O w' O'} {M M' : Mp} (h : Stp w O w' O') (hM : ∀ i, i < M.length → M'[i]? = M[i]?) {g : G} {v : Value} (hv : VR w O M g v) : VR w' O' M' g v := by
  have hM' : ∀ i x, M[i]? = some x → M'[i]? = some x := fun i x hx => (hM i (List.getElem?_eq_some_iff.1 hx).1).trans hx
  induction hv with
  | d hd => exact .d (hd.step h)
  | agg hl _ ih => exact .agg hl ih
  | ptr hp => exact .ptr (hM' _ _ hp)
  | rp vs hb hO hc hv =>
    refine .rp vs (Nat.lt_of_lt_of_le hb h.size) (fun h1 => hO (h.own _ hb h1)) (fun j d hd => ?_) (fun j d hd => (hv j d hd).step h)
    rw [← hc j d hd]
    exact World.cell?_of_block (h.keep _ hb hO)
  | sl hp hn hm => exact .sl (hM' _ _ hp) hn hm
  | slnil hp => exact .slnil (hM' _ _ hp)
  | slo hp hn hm => exact .slo (hM' _ _ hp) hn hm
  | slonil hp => exact .slonil (hM' _ _ hp)
  | map hp => exact .map (hM' _ _ hp)
  | fn l1 l2 _ _ i1 i2 => exact .fn l1 l2 i1 i2
  | tup hl _ ih => exact .tup hl ih
  | junk v => exact .junk v

structure Rel (Z : Env) (hp : List Ob) (M : Mp) (w : World) (fr : Fr) (a : Act) (N : Nat) : Prop where
  heap : RelH Z hp M w
  fr : ∀ t g, fr.get t = some g → ∃ v, a.tmps[t]? = some v ∧ VR w (ownZ Z hp M) M g v
  size : a.tmps.size = N
  defers : a.defers = []

structure Agr (F : Nat) (M M' : Mp) : Prop where
  le : F ≤ M'.length
  eq : ∀ i, i < F → M'[i]? = M[i]?

theorem Agr.trans {F F' : Nat} {M M1 M2 : Mp} (h : Agr F M M1) (k : Agr F' M1 M2) (hF : F ≤ F') : Agr F M M2 :=
  ⟨Nat.le_trans hF k.le, fun i hi => (k.eq i (Nat.lt_of_lt_of_le hi hF)).trans (h.eq i hi)⟩

abbrev GPost := Exit → Fr → List Ob → Prop

def Post (Z : Env) (F N : Nat) (Q : GPost) (w0 : World) (O0 : Nat → Prop) (M0 : Mp) (e : Exit) (a : Act) (w : World) : Prop :=
  ∃ fr hp M, Q e fr hp ∧ Rel Z hp M w fr a N ∧ Stp w0 O0 w (own hp M) ∧ Agr F M0 M

def EW (P : Program) (F N : Nat) (c : Code) (Q : GPost) (fr : Fr) (hp : List Ob) : Prop :=
  ∀ Z w0 O0 M0 w M a, Stp w0 O0 w (own hp M) → Agr F M0 M → Rel Z hp M w fr a N → c.wp P (Post Z F N Q w0 O0 M0) a w

def EO (P : Program) (F N : Nat) (ops : Array Oper) (l : List Oper) (Q : GPost) (fr : Fr) (hp : List Ob) : Prop :=
  ∀ Z w0 O0 M0 w M a, Stp w0 O0 w (own hp M) → Agr F M0 M → Rel Z hp M w fr a N → wpList P ops (Post Z F N Q w0 O0 M0) l a w

/-- THE CONTRACT OF A CALL. -/
def EC (P : Program) (f : FuncId) (gs : List G) (hp : List Ob) (R : G → List Ob → Prop) : Prop :=
  ∀ Z w M (vs : Array Value), RelH Z hp M w → vs.size = gs.length → (∀ (j : Nat) (g : G) (v : Value), gs[j]? = some g → vs[j]? = some v → VR w (ownZ Z hp M) M g v) →
    Calls P f vs w fun e w' => ∃ v g hp' M', e = .returned v ∧ R g hp' ∧ RelH Z hp' M' w' ∧ VR w' (ownZ Z hp' M') M' g v ∧ Stp w (own hp M) w' (own hp' M') ∧ Agr hp.length M M'

theorem EC.mono {P f gs hp} {R R' : G → List Ob → Prop} (h : EC P f gs hp R) (hr : ∀ g hp', R g hp' → R' g hp') : EC P f gs hp R' := by
  intro Z w M vs h1 h2 h3
  refine (h Z w M vs h1 h2 h3).mono ?_
  rintro e w' ⟨v, g, hp', M', he, hR, rest⟩
  exact ⟨v, g, hp', M', he, hr _ _ hR, rest⟩

/-! ### Control -/
section
variable {P : Program} {F N : Nat} {Q : GPost} {fr : Fr} {hp : List Ob}

abbrev GThen (K : Fr → List Ob → Prop) (Q : GPost) : GPost := fun e fr hp => match e with | .normal => K fr hp | e => Q e fr hp
abbrev GBlock (id : Nat) (Q : GPost) : GPost := fun e fr hp => match e with | .exit i => bif Nat.beq i id then Q .normal fr hp else Q (.exit i) fr hp | e => Q e fr hp

theorem ew_seq {x y : Code} (h : EW P F N x (GThen (EW P F N y Q) Q) fr hp) : EW P F N (.seq x y) Q fr hp := by
  intro Z w0 O0 M0 w M a hs ha hr
  refine wp_seq (wp_mono (h Z w0 O0 M0 w M a hs ha hr) ?_)
  rintro e a w ⟨fr, hp, M, hq, r1, r2, r3⟩
  cases e with
  | normal => exact hq Z w0 O0 M0 w M a r2 r3 r1
  | _ => exact ⟨fr, hp, M, hq, r1, r2, r3⟩

theorem ew_skip (h : Q .normal fr hp) : EW P F N .skip Q fr hp := fun _ _ _ _ _ M _ hs ha hr => wp_skip ⟨fr, hp, M, h, hr, hs, ha⟩
theorem ew_ret (h : Q .ret fr hp) : EW P F N .ret Q fr hp := fun _ _ _ _ _ M _ hs ha hr => wp_ret ⟨fr, hp, M, h, hr, hs, ha⟩
theorem ew_exit {id : Nat} (h : Q (.exit id) fr hp) : EW P F N (.exit id) Q fr hp := fun _ _ _ _ _ M _ hs ha hr => wp_exit ⟨fr, hp, M, h, hr, hs, ha⟩

theorem ew_block {id : Nat} {c : Code} (h : EW P F N c (GBlock id Q) fr hp) : EW P F N (.block id c) Q fr hp := by
  intro Z w0 O0 M0 w M a hs ha hr
  refine wp_block (wp_mono (h Z w0 O0 M0 w M a hs ha hr) ?_)
  rintro e a w ⟨fr, hp, M, hq, r1, r2, r3⟩
  cases e with
  | exit i =>
    simp only [GBlock] at hq
    by_cases hi : i = id
    · subst hi
      simp only [Exit.inBlock, if_true]
      simp at hq
      exact ⟨fr, hp, M, hq, r1, r2, r3⟩
    · simp only [Exit.inBlock, if_neg hi]
      have : Nat.beq i id = false := by
        cases hb : Nat.beq i id with
        | false => rfl
        | true => exact absurd (Nat.eq_of_beq_eq_true hb) hi
      rw [this] at hq
      exact ⟨fr, hp, M, hq, r1, r2, r3⟩
  | _ => exact ⟨fr, hp, M, hq, r1, r2, r3⟩

theorem ew_mono {c : Code} {Q' : GPost} (h : EW P F N c Q fr hp) (hq : ∀ e fr hp, Q e fr hp → Q' e fr hp) : EW P F N c Q' fr hp :=
  fun Z w0 O0 M0 w M a hs ha hr => wp_mono (h Z w0 O0 M0 w M a hs ha hr) fun _ _ _ ⟨fr, hp, M, q, r⟩ => ⟨fr, hp, M, hq _ _ _ q, r⟩

theorem ew_cond {t : Tmp} {x y : Code} {b : Bool} (hb : fr.get t = some (.d (.v (.bool b)))) (h1 : b = true → EW P F N x Q fr hp) (h2 : b = false → EW P F N y Q fr hp) :
    EW P F N (.cond (.tmp t) x y) Q fr hp := by
  intro Z w0 O0 M0 w M a hs ha hr
  obtain ⟨v, hv, hvr⟩ := hr.fr _ _ hb
  have hev : a.eval (.tmp t) = .bool b := by
    cases hvr with
    | d hd => cases hd with
      | v => simp [Act.eval, hv]
  exact wp_cond_split hev (fun e => h1 e Z w0 O0 M0 w M a hs ha hr) (fun e => h2 e Z w0 O0 M0 w M a hs ha hr)

theorem ew_condT {t : Tmp} {x y : Code} (hb : fr.get t = some (.d (.v (.bool true)))) (h1 : EW P F N x Q fr hp) : EW P F N (.cond (.tmp t) x y) Q fr hp := ew_cond hb (fun _ => h1) (fun h => by cases h)
theorem ew_condF {t : Tmp} {x y : Code} (hb : fr.get t = some (.d (.v (.bool false)))) (h1 : EW P F N y Q fr hp) : EW P F N (.cond (.tmp t) x y) Q fr hp := ew_cond hb (fun h => by cases h) (fun _ => h1)

/-- Less is known of the frame. -/
def Fr.Sub : Fr → Fr → Prop
  | [], _ => True
  | (t, g) :: r, fr => fr.get t = some g ∧ Fr.Sub r fr

theorem Fr.Sub.get {a b : Fr} (h : a.Sub b) : ∀ t g, a.get t = some g → b.get t = some g := by
  induction a with
  | nil => intro t g hg; cases hg
  | cons x r ih =>
    obtain ⟨k, g0⟩ := x
    intro t g hg
    simp only [Fr.get] at hg
    cases hk : Nat.beq k t with
    | true =>
      rw [hk] at hg
      have := Nat.eq_of_beq_eq_true hk
      subst this
      cases hg
      exact h.1
    | false =>
      rw [hk] at hg
      exact ih h.2 t g hg

theorem Rel.sub {Z : Env} {M : Mp} {w : World} {a : Act} {fr2 : Fr} (h : Rel Z hp M w fr a N) (hs : fr2.Sub fr) : Rel Z hp M w fr2 a N :=
  ⟨h.heap, fun t g hg => h.fr t g (hs.get t g hg), h.size, h.defers⟩

theorem ew_sub {c : Code} (fr2 : Fr) (hs : fr2.Sub fr) (h : EW P F N c Q fr2 hp) : EW P F N c Q fr hp :=
  fun Z w0 O0 M0 w M a hs' ha hr => h Z w0 O0 M0 w M a hs' ha (hr.sub hs)
end

/-! ### Names below a number -/
theorem nblt {a b : Nat} : Nat.blt a b = true ↔ a < b := by rw [Nat.blt_eq]
mutual
def G.bel (k : Nat) : G → Bool
  | .d _ | .rp _ | .junk => true
  | .ptr id _ | .sl id _ | .slo id _ _ _ | .map id => Nat.blt id k
  | .agg gs | .tup gs => G.belAll k gs
  | .fn _ a b => G.belAll k a && G.belAll k b
def G.belAll (k : Nat) : List G → Bool
  | [] => true
  | g :: r => G.bel k g && G.belAll k r
end
def Ob.bel (k : Nat) : Ob → Bool
  | .box _ gs => G.belAll k gs
  | .row _ _ _ _ => true
  | .map _ _ => true
  | .dead => true
/-- All names in a memory are below k. -/
def HB (k : Nat) (hp : List Ob) : Prop := ∀ (i : Nat) (o : Ob), hp[i]? = some o → o.bel k = true
def Fr.FB (k : Nat) : Fr → Prop
  | [] => True
  | (_, g) :: r => g.bel k = true ∧ Fr.FB k r

theorem HB.mk {k : Nat} {hp : List Ob} (h : hp.all (Ob.bel k) = true) : HB k hp := fun i o ho => List.all_eq_true.1 h o (List.mem_of_getElem? ho)
theorem FB.mk {k : Nat} : ∀ {fr : Fr}, (fr.all fun p => p.2.bel k) = true → fr.FB k
  | [], _ => trivial
  | (t, g) :: r, h => by
    simp only [List.all_cons, Bool.and_eq_true] at h
    exact ⟨h.1, FB.mk h.2⟩
theorem G.belAll_spec {k : Nat} : ∀ {gs : List G}, G.belAll k gs = true ↔ ∀ (j : Nat) (g : G), gs[j]? = some g → g.bel k = true
  | [] => by simp [G.belAll]
  | g :: r => by
    simp only [G.belAll, Bool.and_eq_true]
    constructor
    · rintro ⟨h1, h2⟩ j g' hg
      cases j with
      | zero => simp at hg; exact hg ▸ h1
      | succ j => exact G.belAll_spec.1 h2 j g' (by simpa using hg)
    · intro h
      exact ⟨h 0 g (by simp), G.belAll_spec.2 fun j g' hg => h (j + 1) g' (by simpa using hg)⟩

theorem Fr.FB.get {k : Nat} : ∀ {fr : Fr}, fr.FB k → ∀ t g, fr.get t = some g → g.bel k = true
  | [], _, _, _, h => by cases h
  | (k0, g0) :: r, hf, t, g, h => by
    simp only [Fr.get] at h
    cases hk : Nat.beq k0 t with
    | true => rw [hk] at h; cases h; exact hf.1
    | false => rw [hk] at h; exact Fr.FB.get hf.2 t g h

theorem Mp.lt {M : Mp} {i : Nat} {x} (h : M[i]? = some x) : i < M.length := (List.getElem?_eq_some_iff.1 h).1

theorem VR.bel {w O M} {g : G} {v : Value} (h : VR w O M g v) : g.bel M.length = true := by
  induction h with
  | d _ => rfl
  | rp _ _ _ _ _ => rfl
  | junk _ => rfl
  | ptr h => exact nblt.2 (Mp.lt h)
  | sl h _ _ => exact nblt.2 (Mp.lt h)
  | slnil h => exact nblt.2 (Mp.lt h)
  | slo h _ _ => exact nblt.2 (Mp.lt h)
  | slonil h => exact nblt.2 (Mp.lt h)
  | map h => exact nblt.2 (Mp.lt h)
  | agg hl _ ih => 
    refine G.belAll_spec.2 fun j g hg => ?_
    have : j < _ := (List.getElem?_eq_some_iff.1 hg).1
    exact ih j g _ hg (Array.getElem?_eq_getElem (by omega))
  | tup hl _ ih => 
    refine G.belAll_spec.2 fun j g hg => ?_
    have : j < _ := (List.getElem?_eq_some_iff.1 hg).1
    exact ih j g _ hg (Array.getElem?_eq_getElem (by omega))
  | fn l1 l2 _ _ i1 i2 =>
    simp only [G.bel, Bool.and_eq_true]
    constructor
    · refine G.belAll_spec.2 fun j g hg => ?_
      have : j < _ := (List.getElem?_eq_some_iff.1 hg).1
      exact i1 j g _ hg (Array.getElem?_eq_getElem (by omega))
    · refine G.belAll_spec.2 fun j g hg => ?_
      have : j < _ := (List.getElem?_eq_some_iff.1 hg).1
      exact i2 j g _ hg (Array.getElem?_eq_getElem (by omega))

/-- The reading moves, if the names that it uses have not turned. -/
theorem VR.move {w O w' O'} {M M' : Mp} {k : Nat} (h : Stp w O w' O') (hM : ∀ i, i < k → M'[i]? = M[i]?) {g : G} {v : Value} (hv : VR w O M g v) (hb : g.bel k = true) : VR w' O' M' g v := by
  induction hv with
  | d hd => exact .d (hd.step h)
  | agg hl _ ih => exact .agg hl fun j g v hg hv => ih j g v hg hv (G.belAll_spec.1 hb j g hg)
  | ptr hp => exact .ptr ((hM _ (nblt.1 hb)).trans hp)
  | rp vs hb' hO hc hv =>
    refine .rp vs (Nat.lt_of_lt_of_le hb' h.size) (fun h1 => hO (h.own _ hb' h1)) (fun j d hd => ?_) (fun j d hd => (hv j d hd).step h)
    rw [← hc j d hd]
    exact World.cell?_of_block (h.keep _ hb' hO)
  | sl hp hn hm => exact .sl ((hM _ (nblt.1 hb)).trans hp) hn hm
  | slnil hp => exact .slnil ((hM _ (nblt.1 hb)).trans hp)
  | slo hp hn hm => exact .slo ((hM _ (nblt.1 hb)).trans hp) hn hm
  | slonil hp => exact .slonil ((hM _ (nblt.1 hb)).trans hp)
  | map hp => exact .map ((hM _ (nblt.1 hb)).trans hp)
  | fn l1 l2 _ _ i1 i2 =>
    simp only [G.bel, Bool.and_eq_true] at hb
    exact .fn l1 l2 (fun j g v hg hv => i1 j g v hg hv (G.belAll_spec.1 hb.1 j g hg)) (fun j g v hg hv => i2 j g v hg hv (G.belAll_spec.1 hb.2 j g hg))
  | tup hl _ ih => exact .tup hl fun j g v hg hv => ih j g v hg hv (G.belAll_spec.1 hb j g hg)
  | junk v => exact .junk v

theorem ObR.bel {w O M o m} (h : ObR w O M o m) : o.bel M.length = true := by
  cases o with
  | dead => rfl
  | map _ es => rfl
  | box t gs =>
    match m, h with
    | some (b, c), ⟨cs, _, _, hc⟩ =>
      exact G.belAll_spec.2 fun j g hg => let ⟨v, _, _, hv⟩ := hc j g hg; hv.bel
  | row t sz n ds => rfl

theorem RelH.hb {Z hp M w} (h : RelH Z hp M w) : HB hp.length hp := by
  intro i o ho
  have hi : i < hp.length := (List.getElem?_eq_some_iff.1 ho).1
  have := h.obj i o (M[i]'(by rw [h.len]; exact hi)) ho (List.getElem?_eq_getElem _)
  rw [← h.len]
  exact this.bel

theorem CellsR.move {w O w' O'} {M M' : Mp} {k : Nat} (h : Stp w O w' O') (hM : ∀ i, i < k → M'[i]? = M[i]?) {cs : Array Value} {gs : List G} (hc : CellsR w O M cs gs) (hb : G.belAll k gs = true) : CellsR w' O' M' cs gs :=
  fun j g hg => let ⟨v, h1, h2, h3⟩ := hc j g hg; ⟨v, h1, h2, h3.move h hM (G.belAll_spec.1 hb j g hg)⟩

/-- An object stays, where its block has not turned. -/
theorem ObR.move {w O w' O'} {M M' : Mp} {k : Nat} (h : Stp w O w' O') (hM : ∀ i, i < k → M'[i]? = M[i]?) {o : Ob} {m} (ho : ObR w O M o m) (hb : o.bel k = true)
    (hblk : ∀ b c, m = some (b, c) → o.live = true → w'.heap[b]? = w.heap[b]?) : ObR w' O' M' o m := by
  cases o with
  | dead => trivial
  | map agg es =>
    match m, ho with
    | some (b, c), ⟨ms, cl, h1, h2, h3, hc⟩ => exact ⟨ms, cl, (hblk b c rfl rfl).trans h1, h2, h3, fun j k g hg => let ⟨e, e1, e2, e3⟩ := hc j k g hg; ⟨e, e1, e2, e3.step h⟩⟩
  | box t gs =>
    match m, ho with
    | some (b, c), ⟨cs, h1, h2, hc⟩ => exact ⟨cs, (hblk b c rfl rfl).trans h1, h2, hc.move h hM hb⟩
  | row t sz n gs =>
    match m, ho with
    | some (b, c), ⟨h0, cs, h1, h2, h3, h4, hc⟩ => exact ⟨h0, cs, (hblk b c rfl rfl).trans h1, h2, h3, h4, fun j d hd => let ⟨v, e1, e2⟩ := hc j d hd; ⟨v, e1, e2.step h⟩⟩
    | none, h => exact h

theorem own_take {hp ex : List Ob} {M : Mp} (b : Nat) (h : own hp (M.take hp.length) b) : own (hp ++ ex) M b := by
  obtain ⟨i, o, c, h1, h2, h3⟩ := h
  have hi : i < hp.length := (List.getElem?_eq_some_iff.1 h1).1
  refine ⟨i, o, c, by rw [List.getElem?_append_left hi]; exact h1, h2, ?_⟩
  rw [List.getElem?_take_of_lt hi] at h3
  exact h3

/-- The last objects are let go. -/
theorem RelH.cut {Z : Env} {hp ex : List Ob} {M : Mp} {w : World} (h : RelH Z (hp ++ ex) M w) (hb : HB hp.length hp) : RelH Z hp (M.take hp.length) w := by
  have hle : hp.length ≤ M.length := by rw [h.len]; simp
  have st : Stp w (ownZ Z (hp ++ ex) M) w (ownZ Z hp (M.take hp.length)) := stp_z Z ⟨Nat.le_refl _, fun _ _ _ => rfl, fun b _ hb => own_take b hb, rfl, rfl, rfl⟩
  refine ⟨by simp [hle], fun i o m ho hm => ?_, fun b hb' => h.apart b (own_take b hb'), h.old, h.amb, fun i j oi oj b c c' hi hj li lj mi mj => ?_⟩
  · have hi : i < hp.length := (List.getElem?_eq_some_iff.1 ho).1
    rw [List.getElem?_take_of_lt hi] at hm
    exact (h.obj i o m (by rw [List.getElem?_append_left hi]; exact ho) hm).move (k := hp.length) st (fun j hj => List.getElem?_take_of_lt hj) (hb i o ho) (fun _ _ _ _ => rfl)
  · have hi' : i < hp.length := (List.getElem?_eq_some_iff.1 hi).1
    have hj' : j < hp.length := (List.getElem?_eq_some_iff.1 hj).1
    rw [List.getElem?_take_of_lt hi'] at mi
    rw [List.getElem?_take_of_lt hj'] at mj
    exact h.inj i j oi oj b c c' (by rw [List.getElem?_append_left hi']; exact hi) (by rw [List.getElem?_append_left hj']; exact hj) li lj mi mj

theorem Rel.cut {Z : Env} {hp ex : List Ob} {M : Mp} {w : World} {fr : Fr} {a : Act} {N : Nat} (h : Rel Z (hp ++ ex) M w fr a N) (hb : HB hp.length hp) (hf : fr.FB hp.length) : Rel Z hp (M.take hp.length) w fr a N := by
  refine ⟨h.heap.cut hb, fun t g hg => ?_, h.size, h.defers⟩
  obtain ⟨v, hv, hr⟩ := h.fr t g hg
  exact ⟨v, hv, hr.move (k := hp.length) (stp_z Z ⟨Nat.le_refl _, fun _ _ _ => rfl, fun b _ hb => own_take b hb, rfl, rfl, rfl⟩) (fun j hj => List.getElem?_take_of_lt hj) (hf.get t g hg)⟩

theorem stp_cut {w0 : World} {O0 : Nat → Prop} {w : World} {hp ex : List Ob} {M : Mp} (h : Stp w0 O0 w (own (hp ++ ex) M)) : Stp w0 O0 w (own hp (M.take hp.length)) :=
  ⟨h.size, h.keep, fun b hb ho => h.own b hb (own_take b ho), h.os, h.tape, h.output⟩
theorem Agr.cut {F k : Nat} {M0 M : Mp} (h : Agr F M0 M) (hk : F ≤ k) (hl : k ≤ M.length) : Agr F M0 (M.take k) :=
  ⟨by simp; omega, fun i hi => by rw [List.getElem?_take_of_lt (by omega)]; exact h.eq i hi⟩

section
variable {P : Program} {F N : Nat} {Q : GPost} {fr : Fr} {hp : List Ob}
theorem ew_cut {c : Code} {ex : List Ob} (hb : HB hp.length hp) (hf : fr.FB hp.length) (hF : F ≤ hp.length) (h : EW P F N c Q fr hp) : EW P F N c Q fr (hp ++ ex) :=
  fun Z w0 O0 M0 w M a hs ha hr => h Z w0 O0 M0 w _ a (stp_cut hs) (ha.cut hF (by rw [hr.heap.len]; simp)) (hr.cut hb hf)

/-- THE LOOP. Behind a round less may be known of the frame, and the last objects may be let go. -/
theorem ew_loop {c : Code} (I : Nat → Fr → List Ob → Prop) (n : Nat) (h0 : I n fr hp)
    (round : ∀ n fr hp, I n fr hp → EW P F N c (GThen (fun fr' hp' => ∃ n' fr2 hp2 ex, n' < n ∧ I n' fr2 hp2 ∧ fr2.Sub fr' ∧ hp' = hp2 ++ ex ∧ (ex = [] ∨ (HB hp2.length hp2 ∧ fr2.FB hp2.length ∧ F ≤ hp2.length))) Q) fr hp) : EW P F N (.loop c) Q fr hp := by
  intro Z w0 O0 M0 w M a hs ha hr
  refine wp_loop_ghost (fun n a w => ∃ fr hp M, I n fr hp ∧ Stp w0 O0 w (own hp M) ∧ Agr F M0 M ∧ Rel Z hp M w fr a N) n ⟨fr, hp, M, h0, hs, ha, hr⟩ ?_
  rintro n a w ⟨fr, hp, M, hI, hs, ha, hr⟩
  refine wp_mono (round n fr hp hI Z w0 O0 M0 w M a hs ha hr) ?_
  rintro e a w ⟨fr, hp, M, hq, r1, r2, r3⟩
  cases e with
  | normal =>
    obtain ⟨n', fr2, hp2, ex, hlt, hI', hsub, rfl, hx⟩ := hq
    refine ⟨n', hlt, fr2, hp2, ?_⟩
    rcases hx with rfl | ⟨b1, b2, b3⟩
    · rw [List.append_nil] at r1 r2
      exact ⟨M, hI', r2, r3, r1.sub hsub⟩
    · exact ⟨_, hI', stp_cut r2, r3.cut b3 (by rw [r1.heap.len]; simp), (r1.sub hsub).cut b1 b2⟩
  | _ => exact ⟨fr, hp, M, hq, r1, r2, r3⟩

/-! ### A function -/
/-- What the function hands back reads as g. -/
def Res (P : Program) (fn : Func) (fr : Fr) (hp : List Ob) (g : G) : Prop :=
  ∀ Z M w a N, Rel Z hp M w fr a N → ∃ v, (results fn a.tmps).run P w = .ok v w ∧ VR w (ownZ Z hp M) M g v

def Ret (P : Program) (fn : Func) (n0 : Nat) (R : G → List Ob → Prop) : GPost := fun e fr hp' => (e = .normal ∨ e = .ret) ∧
  ∃ hp2 ex g, hp' = hp2 ++ ex ∧ R g hp2 ∧ n0 ≤ hp2.length ∧ (ex = [] ∨ HB hp2.length hp2 ∧ g.bel hp2.length = true) ∧ Res P fn fr hp' g

theorem ec_enter {f : FuncId} {fn : Func} {c : Code} {gs : List G} {R : G → List Ob → Prop} (fr0 : Fr) (hf : P.funcs[f]? = some fn) (hb : fn.body = some c)
    (hfr : ∀ t g, fr0.get t = some g → gs[t]? = some g) (hN : gs.length ≤ fn.ntmps)
    (h : HB hp.length hp → EW P hp.length fn.ntmps c (Ret P fn hp.length R) fr0 hp) : EC P f gs hp R := by
  intro Z w M vs hr hsz hvs
  refine calls_of_wp hf hb ?_
  have hfr' : Rel Z hp M w fr0 { tmps := vs ++ Array.replicate (fn.ntmps - vs.size) undef, defers := [] } fn.ntmps := by
    refine ⟨hr, fun t g hg => ?_, by simp; omega, rfl⟩
    have hg' := hfr t g hg
    have ht : t < gs.length := (List.getElem?_eq_some_iff.1 hg').1
    refine ⟨vs[t]'(by omega), ?_, hvs t g _ hg' (Array.getElem?_eq_getElem (by omega))⟩
    rw [Array.getElem?_append_left (by omega), Array.getElem?_eq_getElem]
  refine wp_mono (h hr.hb Z w (own hp M) M w M _ (Stp.refl _ _) ⟨Nat.le_of_eq hr.len.symm, fun _ _ => rfl⟩ hfr') ?_
  rintro e a w' ⟨fr, hp', M', ⟨he, hp2, ex, g, rfl, hR, hle, hx, hres⟩, r1, r2, r3⟩
  obtain ⟨v, hrun, hvr⟩ := hres _ _ _ _ _ r1
  have fin : ∃ v' g hp' M', Ending.returned v = .returned v' ∧ R g hp' ∧ RelH Z hp' M' w' ∧ VR w' (ownZ Z hp' M') M' g v' ∧ Stp w (own hp M) w' (own hp' M') ∧ Agr hp.length M M' := by
    rcases hx with rfl | ⟨hx, hgb⟩
    · rw [List.append_nil] at r1 r2 hvr
      exact ⟨v, g, hp2, M', rfl, hR, r1.heap, hvr, r2, r3⟩
    · refine ⟨v, g, hp2, _, rfl, hR, r1.heap.cut hx, hvr.move (k := hp2.length) (stp_z Z ⟨Nat.le_refl _, fun _ _ _ => rfl, fun b _ hb => own_take b hb, rfl, rfl, rfl⟩) (fun j hj => List.getElem?_take_of_lt hj) hgb, stp_cut r2, r3.cut hle (by rw [r1.heap.len]; simp)⟩
  rcases he with rfl | rfl
  · exact ⟨r1.defers, v, hrun, fin⟩
  · exact ⟨r1.defers, v, hrun, fin⟩

theorem res_tmp {fn : Func} {t : Tmp} {g : G} (h : fn.results = #[.tmp t]) (hg : fr.get t = some g) : Res P fn fr hp g := by
  intro Z M w a N hr
  obtain ⟨v, hv, hvr⟩ := hr.fr t g hg
  exact ⟨v, by rw [results_tmp h]; simp [hv], hvr⟩
theorem res_none {fn : Func} (h : fn.results = #[]) : Res P fn fr hp (.tup []) :=
  fun _ _ _ _ _ _ => ⟨_, results_none h _ _ _, .tup rfl (fun _ _ _ h _ => by simp at h)⟩
theorem res_tmp2 {fn : Func} {t u : Tmp} {g g' : G} (h : fn.results = #[.tmp t, .tmp u]) (hg : fr.get t = some g) (hg' : fr.get u = some g') : Res P fn fr hp (.tup [g, g']) := by
  intro Z M w a N hr
  obtain ⟨v, hv, hvr⟩ := hr.fr t g hg
  obtain ⟨v', hv', hvr'⟩ := hr.fr u g' hg'
  refine ⟨.tuple #[v, v'], by rw [results_tmp2 h]; simp [hv, hv'], .tup rfl fun j g v hg hv => ?_⟩
  match j, hg, hv with
  | 0, hg, hv => simp at hg hv; subst hg; subst hv; exact hvr
  | 1, hg, hv => simp at hg hv; subst hg; subst hv; exact hvr'
theorem res_tmp3 {fn : Func} {t u s : Tmp} {g g' g'' : G} (h : fn.results = #[.tmp t, .tmp u, .tmp s]) (hg : fr.get t = some g) (hg' : fr.get u = some g') (hg'' : fr.get s = some g'') : Res P fn fr hp (.tup [g, g', g'']) := by
  intro Z M w a N hr
  obtain ⟨v, hv, hvr⟩ := hr.fr t g hg
  obtain ⟨v', hv', hvr'⟩ := hr.fr u g' hg'
  obtain ⟨v'', hv'', hvr''⟩ := hr.fr s g'' hg''
  refine ⟨.tuple #[v, v', v''], by simp [results, h, hv, hv', hv''], .tup rfl fun j g v hg hv => ?_⟩
  match j, hg, hv with
  | 0, hg, hv => simp at hg hv; subst hg; subst hv; exact hvr
  | 1, hg, hv => simp at hg hv; subst hg; subst hv; exact hvr'
  | 2, hg, hv => simp at hg hv; subst hg; subst hv; exact hvr''
end
end Go.Gk
