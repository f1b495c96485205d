/-
  THE GHOST LOGIC, PART 3: operations that compute or read.
-/
import Derived.Test.YtpgnhnjhpnbelaaGreatDoorGk2
set_option linter.unusedVariables false
namespace Go.Gk

def TypeDesc.isAgg : TypeDesc → Bool
  | .struct _ | .array _ _ => true
  | _ => false

/-- Binary operations on plain values that need no side condition. -/
def bitsV (op : BinOp) (k : IntKind) (a b : Int) : Int :=
  match op with
  | .and => k.wrap (BitVec.ofInt k.bits a &&& BitVec.ofInt k.bits b).toNat
  | .or => k.wrap (BitVec.ofInt k.bits a ||| BitVec.ofInt k.bits b).toNat
  | .xor => k.wrap (BitVec.ofInt k.bits a ^^^ BitVec.ofInt k.bits b).toNat
  | _ => k.wrap (BitVec.ofInt k.bits a &&& ~~~BitVec.ofInt k.bits b).toNat
def shlV (k : IntKind) (a : Int) (n : Nat) : Int := k.wrap (a * 2 ^ min n k.bits)
def shrV (k : IntKind) (a : Int) (n : Nat) : Int := a.fdiv (2 ^ min n k.bits)
def binI (op : BinOp) (k k' : IntKind) (a b : Int) : Option Value :=
  match op with
  | .shl => match b with | .ofNat n => some (.int k (shlV k a n)) | _ => none
  | .shr => match b with | .ofNat n => some (.int k (shrV k a n)) | _ => none
  | op => if k = k' then
      match op with
      | .add => some (.int k (k.wrap (a + b)))
      | .sub => some (.int k (k.wrap (a - b)))
      | .mul => some (.int k (k.wrap (a * b)))
      | .eql => some (.bool (a == b))
      | .neq => some (.bool (a != b))
      | .lss => some (.bool (decide (a < b)))
      | .leq => some (.bool (decide (a ≤ b)))
      | .gtr => some (.bool (decide (a > b)))
      | .geq => some (.bool (decide (a ≥ b)))
      | .and => some (.int k (bitsV .and k a b))
      | .or => some (.int k (bitsV .or k a b))
      | .xor => some (.int k (bitsV .xor k a b))
      | .andNot => some (.int k (bitsV .andNot k a b))
      | _ => none
    else none
def binV (op : BinOp) : Value → Value → Option Value
  | .int k a, .int k' b => binI op k k' a b
  | .string ⟨⟨a⟩⟩, .string ⟨⟨b⟩⟩ =>
    match op with
    | .eql => some (.bool (a == b))
    | .neq => some (.bool !(a == b))
    | .lss => some (.bool (Op.bytesLess a b))
    | .leq => some (.bool (Op.bytesLess a b || a == b))
    | .gtr => some (.bool !(Op.bytesLess a b || a == b))
    | .geq => some (.bool !(Op.bytesLess a b))
    | _ => none
  | _, _ => none

theorem toList_mk' (l : List UInt8) : (⟨⟨l⟩⟩ : ByteArray).toList = l := ByteArray.toList_mk l
theorem binI_ok {P : Program} {op : BinOp} {t : TypeId} {x y : Operand} {k k' : IntKind} {a b : Int} {c : Value} (h : binI op k k' a b = some c) (w : World) :
    ((do eqGuard op t x y (.int k a) (.int k' b); binOp op t (.int k a) (.int k' b) : Sem Value)).run P w = .ok c w := by
  unfold binI at h
  split at h
  · split at h
    · cases h
      rename_i n
      have h0 : ¬ ((Int.ofNat n) < 0) := by simp
      simp [eqGuard, binOp, Op.shift, shlV]
      omega
    · cases h
  · split at h
    · cases h
      rename_i n
      simp [eqGuard, binOp, Op.shift, shrV]
      omega
    · cases h
  · split at h
    · rename_i hk
      subst hk
      cases op <;> simp at h <;> subst h <;> simp [eqGuard, binOp, Op.intArith, Op.intCmp, Op.intBits, bitsV]
    · cases h
theorem binV_ok {P : Program} {op : BinOp} {t : TypeId} {x y : Operand} {a b c : Value} (h : binV op a b = some c) (w : World) :
    ((do eqGuard op t x y a b; binOp op t a b : Sem Value)).run P w = .ok c w := by
  unfold binV at h
  split at h
  · exact binI_ok h w
  · cases op <;> simp at h <;> subst h <;> simp [eqGuard, binOp, Op.stringOp, toList_mk']
  · cases h

theorem binI_one {op : BinOp} {k k' : IntKind} {a b : Int} {c : Value} (h : binI op k k' a b = some c) : c.oneCell' = true := by
  unfold binI at h
  split at h
  · split at h
    · cases h; rfl
    · cases h
  · split at h
    · cases h; rfl
    · cases h
  · split at h
    · cases op <;> simp at h <;> subst h <;> rfl
    · cases h
theorem binV_one {op : BinOp} {a b c : Value} (h : binV op a b = some c) : c.oneCell' = true := by
  unfold binV at h
  split at h
  · exact binI_one h
  · cases op <;> simp at h <;> subst h <;> rfl
  · cases h
/-- == and != of bools. -/
def boolV (op : BinOp) (a b : Bool) : Option Value :=
  match op with
  | .eql => some (.bool (a == b))
  | .neq => some (.bool !(a == b))
  | _ => none
theorem eq_bool {P : Program} {t : TypeId} (w : World) (b c : Bool) (u : P.underlying t = some .bool) : (Op.equalIn Op.maxDepth t (.bool b) (.bool c)).run P w = .ok (b == c) w := by
  rw [show Op.maxDepth = (Op.maxDepth - 1) + 1 by rfl]
  simp [Op.equalIn, run_underlying u]
theorem boolV_ok {P : Program} {op : BinOp} {t : TypeId} {x y : Operand} {a b : Bool} {c : Value} (u : P.underlying t = some .bool) (h : boolV op a b = some c) (w : World) :
    ((do eqGuard op t x y (.bool a) (.bool b); binOp op t (.bool a) (.bool b) : Sem Value)).run P w = .ok c w ∧ c.oneCell' = true := by
  unfold boolV at h
  cases op <;> simp at h <;> subst h <;> simp [eqGuard, binOp, Op.equal, eq_bool w a b u, Value.oneCell']

def unV (op : UnOp) : Value → Option Value
  | .int k n => match op with | .neg => some (.int k (k.wrap (0 - n))) | _ => none
  | .bool b => match op with | .not => some (.bool !b) | _ => none
  | _ => none

theorem unV_ok {P : Program} {op : UnOp} {a c : Value} (h : unV op a = some c) (w : World) : (Op.unary op a).run P w = .ok c w ∧ c.oneCell' = true := by
  unfold unV at h
  split at h
  · cases op <;> simp at h <;> subst h <;> simp [Op.unary, Op.intArith, Value.oneCell']
  · cases op <;> simp at h <;> subst h <;> simp [Op.unary, Value.oneCell']
  · cases h

def vG : Option Value → Option G
  | some c => some (.d (.v c))
  | none => none
theorem vG_some {o : Option Value} {g : G} (h : vG o = some g) : ∃ c, o = some c ∧ G.d (.v c) = g := by
  cases o with
  | none => cases h
  | some c => exact ⟨c, rfl, by cases h; rfl⟩
/-- The part of an aggregate. -/
def partG (i : TI) (gs : List G) (off : Nat) : Option G :=
  bif TypeDesc.isAgg i.desc then some (.agg ((gs.drop off).take i.size)) else (gs.drop off).head?
/-- What is loaded from cells of a block that is owned. -/
def loadG (i : TI) (gs : List G) (off : Nat) : Option G :=
  bif TypeDesc.isAgg i.desc then bif Nat.ble (off + i.size) gs.length then some (.agg ((gs.drop off).take i.size)) else none else (gs.drop off).head?
def loadD (i : TI) (ds : List D) (off : Nat) : Option G :=
  bif TypeDesc.isAgg i.desc then bif Nat.ble (off + i.size) ds.length then some (.agg (((ds.drop off).take i.size).map G.d)) else none else ((ds.drop off).head?).map .d

/-- THE STEPS THAT ONLY COMPUTE OR READ. -/
def pst (Γ : TypeId → Option TI) (fr : Fr) (hp : List Ob) : Op → Option G
  | .move x | .assign x => fr.ev x
  | .pick c a b => match fr.ev c with
    | some (.d (.v (.bool true))) => fr.ev a
    | some (.d (.v (.bool false))) => fr.ev b
    | _ => none
  | .binOp op t x y _ => match fr.ev x, fr.ev y with
    | some (.d (.v (.bool a))), some (.d (.v (.bool b))) => match Γ t with
      | some ⟨.bool, _, _, _⟩ => vG (boolV op a b)
      | _ => none
    | some (.d (.v a)), some (.d (.v b)) => vG (binV op a b)
    | _, _ => none
  | .unOp op _ x => match fr.ev x with
    | some (.d (.v a)) => vG (unV op a)
    | _ => none
  | .field t x f => match Γ t, fr.ev x with
    | some ⟨.struct fs, _, _, _⟩, some (.agg gs) => (fs[f]?).bind fun f => (Γ f.type).bind fun i => partG i gs f.offset
    | _, _ => none
  | .fieldAddr t x f => match Γ t with
    | some ⟨.struct fs, _, _, _⟩ => (fs[f]?).bind fun f => (Γ f.type).bind fun i =>
      bif Nat.beq i.size 0 then none else
      match fr.ev x with
      | some (.ptr id off) => some (.ptr id (off + f.offset))
      | some (.rp xs) => some (.rp (xs.drop f.offset))
      | _ => none
    | _ => none
  | .load t x => (Γ t).bind fun i => match fr.ev x with
    | some (.ptr id off) => match hp[id]? with
      | some (.box _ gs) => loadG i gs off
      | some (.row _ _ _ ds) => loadD i ds off
      | _ => none
    | some (.rp xs) => loadD i xs 0
    | _ => none
  | .extract t i => match fr.ev t with
    | some (.tup gs) => gs[i]?
    | _ => none
  | .nilCheck x => match fr.ev x with
    | some (.ptr id off) => some (.ptr id off)
    | some (.rp xs) => some (.rp xs)
    | some (.fn (.func f) a b) => some (.fn (.func f) a b)
    | _ => none
  | .convert s t x => match Γ s, Γ t, fr.ev x with
    | some _, some ⟨.int k, _, _, _⟩, some (.d (.v (.int _ n))) => some (.d (.v (.int k (k.wrap n))))
    | some _, some ⟨.string, _, _, _⟩, some (.d (.v (.string b))) => some (.d (.v (.string b)))
    | _, _, _ => none
  | .makeFunc fn first cap => ((first.toList.mapM fr.ev)).bind fun a => (cap.toList.mapM fr.ev).bind fun b => some (.fn fn a b)
  | .call ⟨.builtin .len, ⟨[x]⟩, ⟨[t]⟩⟩ => match Γ t, fr.ev x with
    | some ⟨.string, _, _, _⟩, some (.d (.v (.string ⟨⟨l⟩⟩))) => some (.d (.v (.int .i64 l.length)))
    | some ⟨.slice _, _, _, _⟩, some (.d (.v (.slice none n _))) => some (.d (.v (.int .i64 n)))
    | some ⟨.slice _, _, _, _⟩, some (.d (.ro n _)) => some (.d (.v (.int .i64 n)))
    | some ⟨.slice _, _, _, _⟩, some (.sl _ n) => some (.d (.v (.int .i64 n)))
    | some ⟨.slice _, _, _, _⟩, some (.slo _ _ _ n) => some (.d (.v (.int .i64 n)))
    | _, _ => none
  | .call ⟨.builtin .min, ⟨[x, y]⟩, ⟨[_, _]⟩⟩ => match fr.ev x, fr.ev y with
    | some (.d (.v (.int k a))), some (.d (.v (.int _ b))) => some (.d (.v (.int k (if b < a then b else a))))
    | _, _ => none
  | .call ⟨.builtin .max, ⟨[x, y]⟩, ⟨[_, _]⟩⟩ => match fr.ev x, fr.ev y with
    | some (.d (.v (.int k a))), some (.d (.v (.int _ b))) => some (.d (.v (.int k (if b > a then b else a))))
    | _, _ => none
  | _ => none

section
variable {P : Program} {Γ : TypeId → Option TI} {N : Nat} {fr : Fr} {hp : List Ob} {g : G} {Z : Env} {M : Mp} {w : World} {a : Act}

theorem run_isAgg' {t : TypeId} {d : TypeDesc} (h : P.underlying t = some d) : (isAgg t).run P w = .ok (TypeDesc.isAgg d) w := by
  cases d <;> simp [isAgg, run_underlying h, TypeDesc.isAgg]

theorem run_size' {t : TypeId} {i : TI} (hΓ : TOK P Γ) (h : Γ t = some i) : (sizeOf t).run P w = .ok i.size w := by
  obtain ⟨_, inf, h1, h2, _⟩ := hΓ t i h
  simp [sizeOf, typeInfo, h1, h2]

theorem head_drop {α : Type} (l : List α) (n : Nat) : (l.drop n).head? = l[n]? := by simp [List.head?_drop]

theorem part_ok {t : TypeId} {i : TI} (hΓ : TOK P Γ) (h : Γ t = some i) {gs : List G} {cs : Array Value} (hc : VR w (ownZ Z hp M) M (.agg gs) (.agg cs)) {off : Nat} (hg : partG i gs off = some g) :
    ∃ v, (part t cs off).run P w = .ok v w ∧ VR w (ownZ Z hp M) M g v := by
  obtain ⟨hu, _⟩ := hΓ t i h
  cases hc with
  | agg hl hr =>
    unfold partG at hg
    cases hb : TypeDesc.isAgg i.desc with
    | true =>
      rw [hb] at hg
      cases hg
      refine ⟨_, by simp [part, run_isAgg' hu, hb, run_size' hΓ h]; rfl, ?_⟩
      refine .agg (by simp; omega) fun j g v hg hv => ?_
      rw [List.getElem?_take] at hg
      split at hg
      · rename_i hj
        rw [List.getElem?_drop] at hg
        refine hr (off + j) g v hg ?_
        rw [Array.getElem?_extract] at hv
        split at hv
        · exact hv
        · cases hv
      · cases hg
    | false =>
      rw [hb] at hg
      have hg' : gs[off]? = some g := by simpa [head_drop] using hg
      have hlt : off < gs.length := (List.getElem?_eq_some_iff.1 hg').1
      have hv : cs[off]? = some (cs[off]'(by omega)) := Array.getElem?_eq_getElem (by omega)
      exact ⟨_, by simp [part, run_isAgg' hu, hb, hv], hr off g _ hg' hv⟩

/-- Cells that read so are loaded so. -/
theorem load_ok {t : TypeId} {i : TI} (hΓ : TOK P Γ) (h : Γ t = some i) (b off : Nat) (gs : List G) (vs : Nat → Value) (hc : ∀ j g, gs[j]? = some g → w.cell? ⟨b, j, none⟩ = some (vs j))
    (hv : ∀ j g, gs[j]? = some g → VR w (ownZ Z hp M) M g (vs j)) (hg : loadG i gs off = some g) :
    ∃ v, (loadVar t ⟨b, off, none⟩).run P w = .ok v w ∧ VR w (ownZ Z hp M) M g v := by
  obtain ⟨hu, _⟩ := hΓ t i h
  unfold loadG at hg
  cases hb : TypeDesc.isAgg i.desc with
  | true =>
    rw [hb] at hg
    cases hn : Nat.ble (off + i.size) gs.length with
    | false => rw [hn] at hg; cases hg
    | true =>
      rw [hn] at hg
      cases hg
      have hle : off + i.size ≤ gs.length := Nat.le_of_ble_eq_true hn
      have hin : ∀ j, (hj : j < i.size) → gs[off + j]? = some (gs[off + j]'(by omega)) := fun j hj => List.getElem?_eq_getElem (by omega)
      have hrun := run_loadCells (P := P) w ⟨b, off, none⟩ i.size (fun j => vs (off + j)) (fun j hj => by rw [Addr.add_lit]; exact hc _ _ (hin j hj))
      refine ⟨_, by simp [loadVar, run_isAgg' hu, hb, run_size' hΓ h, hrun]; rfl, ?_⟩
      refine .agg (by simp; omega) fun j g v hg hv' => ?_
      rw [List.getElem?_take] at hg
      split at hg
      · rename_i hj
        rw [List.getElem?_drop] at hg
        have : v = vs (off + j) := by simpa [hj] using hv'.symm
        rw [this]
        exact hv _ _ hg
      · cases hg
  | false =>
    rw [hb] at hg
    have hg' : gs[off]? = some g := by simpa [head_drop] using hg
    exact ⟨_, by simp [loadVar, run_isAgg' hu, hb, hc _ _ hg'], hv _ _ hg'⟩

theorem loadD_eq {i : TI} {ds : List D} {off : Nat} : loadD i ds off = loadG i (ds.map G.d) off := by
  unfold loadD loadG
  cases TypeDesc.isAgg i.desc <;> simp [List.map_take, ← List.map_drop]

theorem loadG_of {t : TypeId} {i : TI} (hΓ : TOK P Γ) (h : Γ t = some i) {O : Nat → Prop} (hO : O = ownZ Z hp M) {b c off : Nat} {o : Ob} {gs : List G} (ho : ObR w O M o (some (b, c)))
    (hgs : (∃ ty, o = .box ty gs) ∨ ∃ ty sz n ds, o = .row ty sz n ds ∧ gs = ds.map G.d) (hg : loadG i gs off = some g) : ∃ v, (loadVar t ⟨b, off, none⟩).run P w = .ok v w ∧ VR w (ownZ Z hp M) M g v := by
  subst hO
  rcases hgs with ⟨ty, rfl⟩ | ⟨ty, sz, n, ds, rfl, rfl⟩
  · obtain ⟨cs, hb, hl, hcr⟩ := ho
    refine load_ok hΓ h b off gs (fun j => cs.getD j undef) (fun j g hg => ?_) (fun j g hg => ?_) hg
    · obtain ⟨v, hv, _, _⟩ := hcr j g hg
      rw [cell_of_row w b j cs _ _ hb]
      simp [hv]
    · obtain ⟨v, hv, _, hr⟩ := hcr j g hg
      simpa [hv] using hr
  · obtain ⟨_, cs, hb, _, _, _, hcr⟩ := ho
    refine load_ok hΓ h b off _ (fun j => cs.getD j undef) (fun j g hg => ?_) (fun j g hg => ?_) hg
    · rw [List.getElem?_map] at hg
      obtain ⟨d, hd, rfl⟩ := Option.map_eq_some_iff.1 hg
      obtain ⟨v, hv, _⟩ := hcr j d hd
      rw [cell_of_row w b j cs _ _ hb]
      simp [hv]
    · rw [List.getElem?_map] at hg
      obtain ⟨d, hd, rfl⟩ := Option.map_eq_some_iff.1 hg
      obtain ⟨v, hv, hr⟩ := hcr j d hd
      simpa [hv] using VR.d (M := M) hr

theorem load_rp {t : TypeId} {i : TI} (hΓ : TOK P Γ) (h : Γ t = some i) {xs : List D} {v : Value} (hv : VR w (ownZ Z hp M) M (.rp xs) v) (hg : loadD i xs 0 = some g) :
    ∃ u, (Instr.loadAt t v).run P w = .ok u w ∧ VR w (ownZ Z hp M) M g u := by
  cases hv with
  | rp vs hb hO hc hv =>
    rename_i b off
    rw [loadD_eq] at hg
    -- the cells lie from 'off' on
    obtain ⟨hu, _⟩ := hΓ t i h
    unfold loadG at hg
    cases hb' : TypeDesc.isAgg i.desc with
    | true =>
      rw [hb'] at hg
      cases hn : Nat.ble (0 + i.size) (xs.map G.d).length with
      | false => rw [hn] at hg; cases hg
      | true =>
        rw [hn] at hg
        cases hg
        have hle : i.size ≤ xs.length := by have := Nat.le_of_ble_eq_true hn; simpa using this
        have hin : ∀ j, (hj : j < i.size) → xs[j]? = some (xs[j]'(by omega)) := fun j hj => List.getElem?_eq_getElem (by omega)
        have hrun := run_loadCells (P := P) w ⟨b, off, none⟩ i.size vs (fun j hj => by rw [Addr.add_lit]; exact hc _ _ (hin j hj))
        refine ⟨_, by simp [Instr.loadAt, Instr.sureAddr, loadVar, run_isAgg' hu, hb', run_size' hΓ h, hrun]; rfl, ?_⟩
        refine .agg (by simp; omega) fun j g v hg hv' => ?_
        rw [List.getElem?_take] at hg
        split at hg
        · rename_i hj
          simp only [List.drop_zero, List.getElem?_map] at hg
          obtain ⟨d, hd, rfl⟩ := Option.map_eq_some_iff.1 hg
          have : v = vs j := by simpa [hj] using hv'.symm
          rw [this]
          exact .d (hv _ _ hd)
        · cases hg
    | false =>
      rw [hb'] at hg
      have hg' : (xs.map G.d)[0]? = some g := by rw [cond_false, head_drop] at hg; exact hg
      rw [List.getElem?_map] at hg'
      obtain ⟨d, hd, rfl⟩ := Option.map_eq_some_iff.1 hg'
      have := hc _ _ hd
      simp only [Nat.add_zero] at this
      exact ⟨_, by simp [Instr.loadAt, Instr.sureAddr, loadVar, run_isAgg' hu, hb', this], .d (hv _ _ hd)⟩

variable {d : Option Tmp} {ty : TypeId} {pos : String} {after : Array Edge} {gd : Option (Nat × Bool)}

theorem pst_load (hΓ : TOK P Γ) {t : TypeId} {x : Operand} (h : pst Γ fr hp (.load t x) = some g) : OpP P N ⟨d, .load t x, ty, pos, after, gd⟩ fr hp g := by
  intro Z w M a hr
  simp only [pst] at h
  cases hi : Γ t with
  | none => rw [hi] at h; cases h
  | some i =>
    rw [hi] at h
    simp only [Option.bind_some] at h
    cases hx : fr.ev x with
    | none => rw [hx] at h; cases h
    | some gx =>
      rw [hx] at h
      have hvx := hr.ev hx
      simp only [execOp]
      split at h
      · rename_i id off e
        cases e
        generalize a.eval x = vx at hvx
        cases hvx with
        | ptr hM =>
          rename_i b c
          cases ho : hp[id]? with
          | none => rw [ho] at h; cases h
          | some o =>
            rw [ho] at h
            have hob := hr.heap.obj id o _ ho hM
            split at h
            · rename_i t' gs e
              cases e
              obtain ⟨v, h1, h2⟩ := loadG_of (hp := hp) hΓ hi rfl hob (.inl ⟨_, rfl⟩) h
              exact ⟨v, by simp [Instr.loadAt, Instr.sureAddr, h1], h2⟩
            · rename_i t' sz n ds e
              cases e
              rw [loadD_eq] at h
              obtain ⟨v, h1, h2⟩ := loadG_of (hp := hp) hΓ hi rfl hob (.inr ⟨_, _, _, _, rfl, rfl⟩) h
              exact ⟨v, by simp [Instr.loadAt, Instr.sureAddr, h1], h2⟩
            · cases h
      · rename_i xs e
        cases e
        obtain ⟨v, h1, h2⟩ := load_rp hΓ hi hvx h
        exact ⟨v, by simp [h1], h2⟩
      · cases h

theorem pst_fieldAddr (hΓ : TOK P Γ) {t : TypeId} {x : Operand} {k : Nat} (h : pst Γ fr hp (.fieldAddr t x k) = some g) : OpP P N ⟨d, .fieldAddr t x k, ty, pos, after, gd⟩ fr hp g := by
  intro Z w M a hr
  simp only [pst] at h
  split at h
  · rename_i fs _ _ _ hi
    obtain ⟨hu, _⟩ := hΓ t _ hi
    cases hf : fs[k]? with
    | none => rw [hf] at h; cases h
    | some f =>
      rw [hf] at h
      simp only [Option.bind_some] at h
      cases hj : Γ f.type with
      | none => rw [hj] at h; cases h
      | some i =>
        rw [hj] at h
        simp only [Option.bind_some] at h
        cases hz : Nat.beq i.size 0 with
        | true => rw [hz] at h; cases h
        | false =>
          rw [hz] at h
          have hz' : i.size ≠ 0 := fun e => by rw [e] at hz; cases hz
          have hsz := run_size' (P := P) (w := w) hΓ hj
          cases hx : fr.ev x with
          | none => rw [hx] at h; cases h
          | some gx =>
            rw [hx] at h
            have hvx := hr.ev hx
            simp only [execOp]
            generalize a.eval x = vx at hvx
            cases gx <;> simp only [cond_false, Option.some.injEq, reduceCtorEq] at h
            · subst h
              cases hvx with
              | ptr hM =>
                refine ⟨_, by simp [Instr.fieldAt, Instr.sureAddr, run_underlying hu, hf, fieldPlace, hsz, hz', Addr.add_lit], .ptr hM⟩
            · subst h
              cases hvx with
              | rp vs hb hO hc hv =>
                refine ⟨_, by simp [Instr.fieldAt, Instr.sureAddr, run_underlying hu, hf, fieldPlace, hsz, hz', Addr.add_lit]; rfl, .rp (fun j => vs (f.offset + j)) hb hO (fun j d hd => ?_) (fun j d hd => ?_)⟩
                · rw [List.getElem?_drop] at hd
                  rw [Nat.add_assoc]
                  exact hc _ _ hd
                · rw [List.getElem?_drop] at hd
                  exact hv _ _ hd
  · cases h

theorem mapM_ok (hr : Rel Z hp M w fr a N) : ∀ (l : List Operand) {gs : List G}, l.mapM fr.ev = some gs → gs.length = l.length ∧ ∀ (j : Nat) (g : G), gs[j]? = some g → ∃ x, l[j]? = some x ∧ VR w (ownZ Z hp M) M g (a.eval x)
  | [], gs, h => by simp at h; subst h; simp
  | x :: l, gs, h => by
    rw [List.mapM_cons] at h
    cases hx : fr.ev x with
    | none => rw [hx] at h; simp at h
    | some g0 =>
      rw [hx] at h
      cases hl : l.mapM fr.ev with
      | none => rw [hl] at h; simp at h
      | some gs0 =>
        rw [hl] at h
        simp at h
        subst h
        obtain ⟨h1, h2⟩ := mapM_ok hr l hl
        refine ⟨by simp [h1], fun j g hg => ?_⟩
        cases j with
        | zero => simp at hg; subst hg; exact ⟨x, rfl, hr.ev hx⟩
        | succ j => exact h2 j g (by simpa using hg)

theorem mapM_vr (hr : Rel Z hp M w fr a N) {l : Array Operand} {gs : List G} (h : l.toList.mapM fr.ev = some gs) : (l.map a.eval).size = gs.length ∧ ∀ (j : Nat) (g : G) (v : Value), gs[j]? = some g → (l.map a.eval)[j]? = some v → VR w (ownZ Z hp M) M g v := by
  obtain ⟨h1, h2⟩ := mapM_ok hr _ h
  refine ⟨by simp [h1], fun j g v hg hv => ?_⟩
  obtain ⟨x, hx, hvr⟩ := h2 j g hg
  rw [Array.getElem?_map] at hv
  have : l[j]? = some x := by simpa using hx
  rw [this] at hv
  simp at hv
  subst hv
  exact hvr

theorem pst_ok (hΓ : TOK P Γ) {op : Op} (h : pst Γ fr hp op = some g) : OpP P N ⟨d, op, ty, pos, after, gd⟩ fr hp g := by
  cases op with
  | load t x => exact pst_load hΓ h
  | fieldAddr t x f => exact pst_fieldAddr hΓ h
  | move x => exact fun Z w M a hr => ⟨a.eval x, rfl, hr.ev h⟩
  | assign x => exact fun Z w M a hr => ⟨a.eval x, rfl, hr.ev h⟩
  | pick c x y =>
    intro Z w M a hr
    simp only [pst] at h
    split at h
    · rename_i hc
      exact ⟨a.eval x, by simp [execOp, hr.ev_v hc, asBool], hr.ev h⟩
    · rename_i hc
      exact ⟨a.eval y, by simp [execOp, hr.ev_v hc, asBool], hr.ev h⟩
    · cases h
  | binOp op t x y t' =>
    intro Z w M a hr
    simp only [pst] at h
    split at h
    · rename_i u v hx hy
      split at h
      · rename_i _ _ _ hi
        obtain ⟨hu, _⟩ := hΓ t _ hi
        obtain ⟨c, hc, rfl⟩ := vG_some h
        obtain ⟨h1, h2⟩ := boolV_ok (P := P) (x := x) (y := y) hu hc w
        refine ⟨c, ?_, .d (.v _ h2)⟩
        simp only [execOp, hr.ev_v hx, hr.ev_v hy]
        rw [Sem.run_bind, h1]
        rfl
      · cases h
    · rename_i u v hx hy
      obtain ⟨c, hc, rfl⟩ := vG_some h
      refine ⟨c, ?_, .d (.v _ (binV_one hc))⟩
      simp only [execOp, hr.ev_v hx, hr.ev_v hy]
      have := binV_ok (P := P) (t := t) (x := x) (y := y) hc w
      rw [Sem.run_bind, this]
      rfl
    · cases h
  | unOp op t x =>
    intro Z w M a hr
    simp only [pst] at h
    split at h
    · rename_i u hx
      obtain ⟨c, hc, rfl⟩ := vG_some h
      obtain ⟨h1, h2⟩ := unV_ok (P := P) hc w
      exact ⟨c, by simp [execOp, hr.ev_v hx, h1], .d (.v _ h2)⟩
    · cases h
  | field t x k =>
    intro Z w M a hr
    simp only [pst] at h
    split at h
    · rename_i fs _ _ _ gs hi hx
      obtain ⟨hu, _⟩ := hΓ t _ hi
      cases hf : fs[k]? with
      | none => rw [hf] at h; cases h
      | some f =>
        rw [hf] at h
        simp only [Option.bind_some] at h
        cases hj : Γ f.type with
        | none => rw [hj] at h; cases h
        | some i =>
          rw [hj] at h
          simp only [Option.bind_some] at h
          have hvx := hr.ev hx
          simp only [execOp]
          generalize a.eval x = vx at hvx
          cases hvx with
          | agg hl hv =>
            obtain ⟨v, h1, h2⟩ := part_ok (hp := hp) hΓ hj (.agg hl hv) h
            exact ⟨v, by simp [Instr.field, run_underlying hu, hf, asAgg, h1], h2⟩
    · cases h
  | extract t i =>
    intro Z w M a hr
    simp only [pst] at h
    split at h
    · rename_i gs hx
      have hvx := hr.ev hx
      simp only [execOp]
      generalize a.eval t = vx at hvx
      cases hvx with
      | tup hl hv =>
        rename_i vs
        have hlt : i < gs.length := (List.getElem?_eq_some_iff.1 h).1
        have hv' : vs[i]? = some (vs[i]'(by omega)) := Array.getElem?_eq_getElem (by omega)
        exact ⟨_, by simp [Instr.extract, hv'], hv i g _ h hv'⟩
    · cases h
  | nilCheck x =>
    intro Z w M a hr
    simp only [pst] at h
    split at h
    · rename_i id off hx
      cases h
      have hvx := hr.ev hx
      simp only [execOp]
      generalize a.eval x = vx at hvx
      cases hvx with
      | ptr hM => exact ⟨_, rfl, .ptr hM⟩
    · rename_i xs hx
      cases h
      have hvx := hr.ev hx
      simp only [execOp]
      generalize a.eval x = vx at hvx
      cases hvx with
      | rp vs hb hO hc hv => exact ⟨_, rfl, .rp vs hb hO hc hv⟩
    · rename_i f g1 g2 hx
      cases h
      have hvx := hr.ev hx
      simp only [execOp]
      generalize a.eval x = vx at hvx
      cases hvx with
      | fn l1 l2 h1 h2 => exact ⟨_, rfl, .fn l1 l2 h1 h2⟩
    · cases h
  | convert s t x =>
    intro Z w M a hr
    simp only [pst] at h
    split at h
    · rename_i i k _ _ _ k' n h1 h2 h3
      cases h
      obtain ⟨u1, _⟩ := hΓ s _ h1
      obtain ⟨u2, _⟩ := hΓ t _ h2
      exact ⟨_, by simp [execOp, convert, run_underlying u1, run_underlying u2, hr.ev_v h3, Conv.intToInt], .d (.v _ rfl)⟩
    · rename_i i _ _ _ b h1 h2 h3
      cases h
      obtain ⟨u1, _⟩ := hΓ s _ h1
      obtain ⟨u2, _⟩ := hΓ t _ h2
      exact ⟨_, by simp [execOp, convert, run_underlying u1, run_underlying u2, hr.ev_v h3], .d (.v _ rfl)⟩
    · cases h
  | makeFunc fn first cap =>
    intro Z w M a hr
    simp only [pst] at h
    cases h1 : first.toList.mapM fr.ev with
    | none => rw [h1] at h; cases h
    | some g1 =>
      rw [h1] at h
      cases h2 : cap.toList.mapM fr.ev with
      | none => rw [h2] at h; cases h
      | some g2 =>
        rw [h2] at h
        cases h
        obtain ⟨l1, r1⟩ := mapM_vr hr h1
        obtain ⟨l2, r2⟩ := mapM_vr hr h2
        exact ⟨_, rfl, .fn l1 l2 r1 r2⟩
  | call c =>
    intro Z w M a hr
    unfold pst at h
    split at h <;> (try (simp at *; done))
    · rename_i x t e
      cases e
      split at h
      · rename_i s hi hx
        cases h
        obtain ⟨u, _⟩ := hΓ t _ hi
        exact ⟨_, by simp [execOp, resolve, invoke, builtin, Builtin.len_, run_underlying u, hr.ev_v hx]; rfl, .d (.v _ rfl)⟩
      · rename_i n _ hi hx
        cases h
        obtain ⟨u, _⟩ := hΓ t _ hi
        exact ⟨_, by simp [execOp, resolve, invoke, builtin, Builtin.len_, run_underlying u, hr.ev_v hx]; rfl, .d (.v _ rfl)⟩
      · rename_i n xs hi hx
        cases h
        obtain ⟨u, _⟩ := hΓ t _ hi
        have hvx := hr.ev hx
        simp only [execOp, resolve]
        generalize hvv : a.eval x = vx at hvx
        cases hvx with
        | d hd =>
          cases hd with
          | nil => exact ⟨_, by simp [invoke, builtin, Builtin.len_, run_underlying u, hvv]; rfl, .d (.v _ rfl)⟩
          | ro _ _ b off cap vs => exact ⟨_, by simp [invoke, builtin, Builtin.len_, run_underlying u, hvv]; rfl, .d (.v _ rfl)⟩
      · rename_i id n hi hx
        cases h
        obtain ⟨u, _⟩ := hΓ t _ hi
        have hvx := hr.ev hx
        simp only [execOp, resolve]
        generalize hvv : a.eval x = vx at hvx
        cases hvx with
        | sl hM _ _ => exact ⟨_, by simp [invoke, builtin, Builtin.len_, run_underlying u, hvv]; rfl, .d (.v _ rfl)⟩
        | slnil hM => exact ⟨_, by simp [invoke, builtin, Builtin.len_, run_underlying u, hvv]; rfl, .d (.v _ rfl)⟩
      · rename_i id sz o n hi hx
        cases h
        obtain ⟨u, _⟩ := hΓ t _ hi
        have hvx := hr.ev hx
        simp only [execOp, resolve]
        generalize hvv : a.eval x = vx at hvx
        cases hvx with
        | slo hM _ _ => exact ⟨_, by simp [invoke, builtin, Builtin.len_, run_underlying u, hvv]; rfl, .d (.v _ rfl)⟩
        | slonil hM => exact ⟨_, by simp [invoke, builtin, Builtin.len_, run_underlying u, hvv]; rfl, .d (.v _ rfl)⟩
      · cases h
    · rename_i x y t t' e
      cases e
      split at h
      · rename_i k n k' n' hx hy
        cases h
        exact ⟨_, by simp [execOp, resolve, invoke, builtin, hr.ev_v hx, hr.ev_v hy, run_min_int2], .d (.v _ rfl)⟩
      · cases h
    · rename_i x y t t' e
      cases e
      split at h
      · rename_i k n k' n' hx hy
        cases h
        exact ⟨_, by simp [execOp, resolve, invoke, builtin, hr.ev_v hx, hr.ev_v hy, run_max_int2], .d (.v _ rfl)⟩
      · cases h
  | _ => simp [pst] at h
end
end Go.Gk
