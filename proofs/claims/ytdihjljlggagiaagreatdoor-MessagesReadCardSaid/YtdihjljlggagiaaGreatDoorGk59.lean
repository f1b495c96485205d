/-
  THE GHOST LOGIC, PART 59: slices of bytes as strings; rows that are made; append to nothing.
-/
import Derived.Test.YtdihjljlggagiaaGreatDoorGk49
import Derived.Lib.ConvBytes
import Derived.Lib.AtoiErrMem
import Derived.Laws.AppendOwn
import Derived.WideLaws
set_option linter.unusedVariables false
set_option linter.unusedSimpArgs false
set_option linter.unusedSectionVars false
namespace Go.Gk
open Go.Instr
section
variable {P : Program} {Γ : TypeId → Option TI} {F N : Nat} {fr : Fr} {hp : List Ob} {d : Tmp} {ty : TypeId} {pos : String} {after : Array Edge} {gd' : Option (Nat × Bool)} {t' : TypeId} {Z : Env} {M : Mp} {w : World} {Q : GPost} {ops : Array Oper} {rest : List Oper}
/-- string(b) of bytes that are data. -/
theorem op_strD (hΓ : TOK P Γ) {s t e : TypeId} {i1 i2 i3 : TI} {x : Operand} {l : List Int} {r : Str} (hz : strB l = some r) (h1 : Γ s = some i1) (h1' : i1.desc = .slice e) (h2 : Γ e = some i2) (h2' : i2.desc = .int .u8) (h3 : Γ t = some i3) (h3' : i3.desc = .string)
    (hx : fr.ev x = some (.d (Sl (eN .u8) l))) : OpP P N ⟨some d, .convert s t x, ty, pos, after, gd'⟩ fr hp (S r) := fun Z w M a hr => by
  obtain ⟨u1, _⟩ := hΓ _ _ h1
  rw [h1'] at u1
  obtain ⟨u2, _⟩ := hΓ _ _ h2
  rw [h2'] at u2
  obtain ⟨u3, _⟩ := hΓ _ _ h3
  rw [h3'] at u3
  have hvx := hr.ev hx
  have hle := strB_ok hz
  have hl : l.length = r.length := by rw [hle]; simp
  simp only [execOp]
  generalize a.eval x = vx at hvx
  cases hvx with
  | d hvd =>
    unfold Sl at hvd
    rw [hl] at hvd
    generalize hds : l.flatMap (eN .u8) = ds at hvd
    generalize hn : r.length = n at hvd
    cases hvd with
    | nil =>
      have : r = [] := List.eq_nil_of_length_eq_zero hn
      subst this
      exact ⟨_, by simp [run_convert_bytes_nil w s e u1 u2 0 0 t u3]; rfl, .d (.v _ rfl)⟩
    | ro _ _ b off cap vs hb hO hn' hm hc hv =>
      have hrun := run_convert_bytes_arg w s e u1 u2 b off n cap (r.map fun c => (c.toNat : Int)) (by simp [hn]) (fun i hi => ?_) t u3
      · exact ⟨_, by simp [hrun]; rfl, by rw [strOfNums_u8]; exact .d (.v _ rfl)⟩
      · have hri : r[i]? = some (r[i]'(by omega)) := List.getElem?_eq_getElem (by omega)
        have hdi : ds[i]? = some (.v (.int .u8 ((r[i]'(by omega)).toNat : Int))) := by rw [← hds, hle, flat_u8, List.getElem?_map, hri]; rfl
        have h4 := hc i _ hdi
        have h5 := hv i _ hdi
        generalize vs i = v at h4 h5
        cases h5
        rw [h4]
        simp [List.getD, hri]
/-- So many zeros. -/
def makeZ {α : Type} (z : α) (n : Int) : Option (List α) := match n with
  | .ofNat k => bif Nat.ble k 16777216 then some (List.replicate k z) else none
  | _ => none
theorem flat_rep {α : Type} (enc : α → List D) (z : α) : ∀ n : Nat, (List.replicate n z).flatMap enc = (List.replicate n (enc z)).flatten
  | 0 => rfl
  | n + 1 => by rw [List.replicate_succ, List.flatMap_cons, flat_rep enc z n, List.replicate_succ, List.flatten_cons]
theorem eo_makeZ {α : Type} {enc : α → List D} {z : α} {n : Int} {r : List α} (hΓ : TOK P Γ) {t e : TypeId} {i1 i2 : TI} {x y : Operand} {k1 k2 : IntKind} (hz : makeZ z n = some r) (h1 : Γ t = some i1) (h1' : i1.desc = .slice e) (h2 : Γ e = some i2) (hz1 : (i2.zero.cells.toList.all (·.oneCell')) = true) (hz2 : Nat.blt 0 i2.zero.cells.size = true) (hz3 : Nat.beq i2.zero.cells.size i2.size = true)
    (hb : Nat.ble i2.bytes 16777216 = true) (he : i2.zero.cells.toList.map D.v = enc z) (hx : fr.ev x = some (.d (.v (.int k1 n)))) (hy : fr.ev y = some (.d (.v (.int k2 n)))) (hd : Nat.blt d N = true) (hF : F ≤ hp.length)
    (k : EO P F N ops rest Q ((d, .sl hp.length r.length) :: fr) (hp ++ [.row e i2.size r.length (r.flatMap enc)])) : EO P F N ops (⟨some d, .makeSlice t x y, ty, pos, after, none⟩ :: rest) Q fr hp := by
  unfold makeZ at hz
  cases n with
  | negSucc _ => cases hz
  | ofNat m =>
    simp only at hz
    cases hm : Nat.ble m 16777216 with
    | false => rw [hm] at hz; cases hz
    | true =>
      rw [hm] at hz
      cases hz
      have hm' := Nat.le_of_ble_eq_true hm
      have hb' := Nat.le_of_ble_eq_true hb
      rw [List.length_replicate] at k
      have hzz : zerosD i2 m = (List.replicate m z).flatMap enc := by rw [flat_rep, ← he]; rfl
      refine eo_make hΓ m m h1 h1' h2 hz1 hz2 hz3 hx hy (Nat.le_refl _) (by simp only [maxLen]; omega) ?_ hd hF (by rw [hzz]; exact k)
      calc i2.bytes * m ≤ 16777216 * 16777216 := Nat.mul_le_mul hb' hm'
        _ = 281474976710656 := by decide
/-- APPEND to the first part of a row, whatever the source is read off; the row that comes out has a new name. -/
theorem ops_appendG (hΓ : TOK P Γ) {t te : TypeId} {i1 i2 : TI} {x y : Operand} {id n n0 m : Nat} {ds0 ds ys : List D} (h1 : Γ t = some i1) (h1' : i1.desc = .slice te) (h2 : Γ te = some i2) (hz : Nat.beq i2.zero.cells.size i2.size = true) (hz0 : Nat.blt 0 i2.size = true)
    (hx : fr.ev x = some (.sl id n)) (ho : hp[id]? = some (.row te i2.size n0 ds0)) (hn0 : n ≤ n0) (hds : ds = ds0.take (n * i2.size))
    (hsrcH : ∀ Z w M a, Rel Z hp M w fr a N → ∃ news : List Value, ((a.eval y = .slice none 0 0 ∧ m = 0 ∧ news = []) ∨ ∃ b off cap, a.eval y = .slice (some ⟨b, off, none⟩) m cap ∧ (∀ (j : Nat) (u : Value), news[j]? = some u → w.cell? ⟨b, off + j, none⟩ = some u)) ∧ news.length = ys.length ∧ (∀ (j : Nat) (u : Value) (d : D), news[j]? = some u → ys[j]? = some d → VD w (ownZ Z hp M) d u) ∧ ∀ u ∈ news, u.oneCell' = true) (hl : ys.length = m * i2.size) (hb : (n + m) * i2.bytes ≤ 140737488355328) (hm : n + m ≤ maxLen) :
    OpS P N ⟨some d, .call ⟨.builtin .append, #[x, y], #[t, t]⟩, ty, pos, after, gd'⟩ fr hp (.sl hp.length (n + m)) (hp.set id .dead ++ [.row te i2.size (n + m) (ds ++ ys)]) := by
  intro Z w M a hr
  obtain ⟨u1, _⟩ := hΓ t _ h1
  rw [h1'] at u1
  obtain ⟨_, inf, e1, e2, e3, e4⟩ := hΓ te _ h2
  have hid : id < hp.length := (List.getElem?_eq_some_iff.1 ho).1
  have hidM : id < M.l.length := by rw [hr.heap.len]; exact hid
  have hzs : i2.zero.cells.size = inf.size := by rw [e2]; exact Nat.eq_of_beq_eq_true hz
  have hvx := hr.ev hx
  have hob := hr.heap.obj id _ _ ho (List.getElem?_eq_getElem hidM)
  generalize hmo : M.l[id] = mo at hob
  have hMid : M.l[id]? = some mo := by rw [List.getElem?_eq_getElem hidM, hmo]
  -- the source
  obtain ⟨news, hsrc1, hsrc2, hsrc3, hsrc4⟩ := hsrcH Z w M a hr
  -- the row
  have hrow : ∃ cs0 : Array Value, ((mo = none ∧ a.eval x = .slice none 0 0 ∧ n = 0) ∨ ∃ b c, mo = some (b, c) ∧ a.eval x = .slice (some ⟨b, 0, none⟩) n c ∧ w.heap[b]? = some (.cells cs0 te (0, 0)) ∧ cs0.size = c * inf.size ∧ n ≤ c ∧ c ≤ maxLen) ∧
      (mo = none → ds = []) ∧ ds.length = n * inf.size ∧ (mo ≠ none → DataR w (ownZ Z hp M) cs0 ds) := by
    cases mo with
    | none =>
      obtain ⟨rfl, rfl⟩ := hob
      obtain rfl : n = 0 := by omega
      have hd0 : ds = [] := by rw [hds]; simp
      refine ⟨#[], .inl ⟨rfl, ?_, rfl⟩, fun _ => hd0, by rw [hd0]; simp, fun h => absurd rfl h⟩
      generalize a.eval x = vx at hvx
      cases hvx with
      | sl h _ _ => rw [hMid] at h; cases h
      | slnil h => rfl
    | some bc =>
      obtain ⟨b, c⟩ := bc
      obtain ⟨hdl, cs, hb, hcs, hnc, hcm, hcr⟩ := hob
      refine ⟨cs, .inr ⟨b, c, rfl, ?_, hb, by rw [hcs, e2], by omega, hcm⟩, (fun h => by cases h), by rw [hds, List.length_take, hdl, ← e2]; exact Nat.min_eq_left (Nat.mul_le_mul_right _ hn0), fun _ j dd hj => hcr j dd (by rw [hds, List.getElem?_take] at hj; split at hj <;> simp_all)⟩
      generalize a.eval x = vx at hvx
      cases hvx with
      | sl h _ _ => rw [hMid] at h; cases h; rfl
      | slnil h => rw [hMid] at h; cases h
  obtain ⟨cs0, hrow1, hrow2, hrow3, hrow4⟩ := hrow
  obtain ⟨v', w', mo', hrun, g1, g2, g3, g4, hres⟩ := app_core (P := P) (tyo := ty) mo u1 e1 e4 hzs (by rw [e2]; exact nblt.1 hz0) hrow1 hsrc1 (by rw [hsrc2, hl, e2]) hsrc4 hm (by rw [e3]; exact hb)
  have hMold : ∀ i, i < M.l.length → (M.app [mo']).l[i]? = M.l[i]? := fun i hi => List.getElem?_append_left hi
  have hMnew : (M.app [mo']).l[hp.length]? = some mo' := by rw [← hr.heap.len]; simp
  have hcase : ∀ (i : Nat) (o : Ob), (hp.set id .dead ++ [.row te i2.size (n + m) (ds ++ ys)])[i]? = some o → (i < hp.length ∧ i ≠ id ∧ hp[i]? = some o) ∨ (i = id ∧ o = .dead) ∨ (i = hp.length ∧ o = .row te i2.size (n + m) (ds ++ ys)) := fun i o h => by
    by_cases hi : i < hp.length
    · rw [List.getElem?_append_left (by simpa using hi)] at h
      by_cases hii : i = id
      · subst hii; simp [hid] at h; exact .inr (.inl ⟨rfl, h.symm⟩)
      · rw [List.getElem?_set_ne (Ne.symm hii)] at h; exact .inl ⟨hi, hii, h⟩
    · rw [List.getElem?_append_right (by simp; omega)] at h
      simp only [List.length_set] at h
      have h0 : i - hp.length = 0 := by
        cases hk : i - hp.length with
        | zero => rfl
        | succ k => rw [hk] at h; simp at h
      rw [h0] at h
      simp at h
      exact .inr (.inr ⟨by omega, h.symm⟩)
  have hlive : ∀ (c : Nat) (b : Nat), mo = some (b, c) → obOwn hp M b := fun c b e => ⟨id, _, c, ho, rfl, by rw [hMid, e]⟩
  have hkeep : ∀ b, b < w.heap.size → ¬ own hp M b → w'.heap[b]? = w.heap[b]? := fun b hb hn => by
    rcases hres with ⟨_, _, _, rfl, _⟩ | ⟨b', c', cur, r1, r2, r3, r4, r5, r6, r7, r8, r9, r10⟩
    · rfl
    · refine r9 b hb fun e => ?_
      subst e
      rcases r10 with ⟨c, hc⟩ | h
      · exact hn (.inl (hlive c b hc))
      · omega
  have hobo : ∀ b, b < w.heap.size → obOwn (hp.set id .dead ++ [.row te i2.size (n + m) (ds ++ ys)]) (M.app [mo']) b → obOwn hp M b := by
    rintro b hb ⟨i, o, c, h1, h2, h3⟩
    rcases hcase i o h1 with ⟨e1, e2, e3⟩ | ⟨rfl, rfl⟩ | ⟨rfl, rfl⟩
    · rw [hMold i (by rw [hr.heap.len]; exact e1)] at h3
      exact ⟨i, o, c, e3, h2, h3⟩
    · cases h2
    · rw [hMnew] at h3
      rcases hres with ⟨r1, _⟩ | ⟨b', c', cur, r1, r2, r3, r4, r5, r6, r7, r8, r9, r10⟩
      · rw [r1] at h3; cases h3
      · rw [r1] at h3
        cases h3
        rcases r10 with ⟨c, hc⟩ | h
        · exact hlive c b hc
        · omega
  have hbg : ∀ (i : Nat) (al : List Bool) (ar : List Ar) (lt : List (Nat × Nat)), (hp.set id .dead ++ [.row te i2.size (n + m) (ds ++ ys)])[i]? = some (.bag al ar lt) → hp[i]? = some (.bag al ar lt) := fun i al ar lt h => bag_set rfl i al ar lt (bag_snoc rfl i al ar lt h)
  have htags : KeepT hp M w w' := fun x hx hno => by
    rcases hres with ⟨_, _, _, rfl, _⟩ | ⟨b', c', cur, r1, r2, r3, r4, r5, r6, r7, r8, r9, r10⟩
    · rfl
    · refine r9 x.b (hr.heap.bags.tgs x hx).1 fun e => ?_
      rcases r10 with ⟨c, hc⟩ | h
      · exact hno (e ▸ hlive c b' hc)
      · have := (hr.heap.bags.tgs x hx).1; omega
  have hst : Stp w (own hp M) w' (own (hp.set id .dead ++ [.row te i2.size (n + m) (ds ++ ys)]) (M.app [mo'])) := .mk' g1 hkeep (fun b hb h => own_imp h (hobo b hb) (fun g => g.of hbg) rfl) g2 g3 g4 rfl (fun g => g.of hbg) (hr.heap.bags.ht htags)
  have hob' : ∀ i o c b, i ≠ id → hp[i]? = some o → o.live = true → M.l[i]? = some (some (b, c)) → w'.heap[b]? = w.heap[b]? := fun i o c b hi h1 h2 h3 => by
    have hlt := hr.heap.block_ob ⟨i, o, c, h1, h2, h3⟩
    rcases hres with ⟨_, _, _, rfl, _⟩ | ⟨b', c', cur, r1, r2, r3, r4, r5, r6, r7, r8, r9, r10⟩
    · rfl
    · refine r9 b hlt fun e => ?_
      subst e
      rcases r10 with ⟨c2, hc⟩ | h
      · exact hi (hr.heap.inj i id o _ b c c2 h1 ho h2 rfl h3 (by rw [hMid, hc]))
      · omega
  have hnew : ∀ i o b c, i ≠ id → hp[i]? = some o → o.live = true → M.l[i]? = some (some (b, c)) → ∀ c', mo' = some (b, c') → False := fun i o b c hi h1 h2 h3 c' he => by
    have hlt := hr.heap.block_ob ⟨i, o, c, h1, h2, h3⟩
    rcases hres with ⟨r1, _⟩ | ⟨b', c2, cur, r1, r2, r3, r4, r5, r6, r7, r8, r9, r10⟩
    · rw [r1] at he; cases he
    · rw [r1] at he
      cases he
      rcases r10 with ⟨c3, hc⟩ | h
      · exact hi (hr.heap.inj i id o _ b c c3 h1 ho h2 rfl h3 (by rw [hMid, hc]))
      · omega
  refine ⟨v', w', M.app [mo'], ?_, ⟨by simp [hr.heap.len], fun i o m' h1 h2 => ?_, fun b hb hz => ?_, fun b hz => Nat.lt_of_lt_of_le (hr.heap.old b hz) g1, hr.heap.amb_stp hst, fun i j oi oj b c c' hi hj li lj mi mj => ?_, hr.heap.bags.mono rfl g1 hobo hbg⟩, ?_, hst, ⟨by simp [hr.heap.len], fun i hi => hMold i (by rw [hr.heap.len]; exact hi)⟩⟩
  · simp [execOp, resolve, invoke, builtin, hrun]
  · rcases hcase i o h1 with ⟨e1', e2', e3'⟩ | ⟨rfl, rfl⟩ | ⟨rfl, rfl⟩
    · rw [hMold i (by rw [hr.heap.len]; exact e1')] at h2
      have hob := hr.heap.obj i o m' e3' h2
      exact hob.move (k := M.l.length) (stp_z Z hst) hMold hob.bel (fun b c e hl2 => by subst e; exact hob' i o c b e2' e3' hl2 h2) (hr.heap.bags.kp htags rfl e3')
    · cases m' <;> trivial
    · rw [hMnew] at h2
      cases h2
      rcases hres with ⟨rfl, r2, r3, r4, rfl⟩ | ⟨b', c', cur, rfl, r2, r3, r4, r5, r6, r7, r8, r9, r10⟩
      · have : ds = [] := hrow2 rfl
        have hm0 : m = 0 := by omega
        subst hm0
        have : ys = [] := List.eq_nil_of_length_eq_zero (by simpa using hl)
        subst this
        exact ⟨by rw [hrow2 rfl]; rfl, r3⟩
      · refine ⟨by rw [List.length_append, hrow3, hl, e2, Nat.add_mul], cur, r3, by rw [r4, e2], r5, r6, fun j dd hj => ?_⟩
        by_cases hjn : j < ds.length
        · rw [List.getElem?_append_left hjn] at hj
          have hmo : mo ≠ none := fun e => by have := hrow2 e; subst this; simp at hjn
          obtain ⟨v, f1, f2⟩ := hrow4 hmo j dd hj
          exact ⟨v, by rw [r7 j (by rw [← hrow3]; exact hjn) hmo]; exact f1, f2.step (stp_z Z hst)⟩
        · rw [List.getElem?_append_right (by omega)] at hj
          have hlt : j - ds.length < news.length := by rw [hsrc2]; exact (List.getElem?_eq_some_iff.1 hj).1
          have hn := List.getElem?_eq_getElem hlt
          refine ⟨news[j - ds.length], ?_, (hsrc3 _ _ dd hn hj).step (stp_z Z hst)⟩
          have := r8 _ _ hn
          rw [← hrow3] at this
          rw [← this]
          congr 1
          omega
  · by_cases hb' : b < w.heap.size
    · exact hr.heap.apart b (hst.own b hb' hb) hz
    · exact absurd (hr.heap.old b hz) hb'
  · rcases hcase i oi hi with ⟨a1, a2, a3⟩ | ⟨rfl, rfl⟩ | ⟨rfl, rfl⟩
    · rw [hMold i (by rw [hr.heap.len]; exact a1)] at mi
      rcases hcase j oj hj with ⟨b1, b2, b3⟩ | ⟨rfl, rfl⟩ | ⟨rfl, rfl⟩
      · rw [hMold j (by rw [hr.heap.len]; exact b1)] at mj
        exact hr.heap.inj i j oi oj b c c' a3 b3 li lj mi mj
      · cases lj
      · rw [hMnew] at mj
        exact (hnew i oi b c a2 a3 li mi c' (by cases mj; rfl)).elim
    · cases li
    · rw [hMnew] at mi
      rcases hcase j oj hj with ⟨b1, b2, b3⟩ | ⟨rfl, rfl⟩ | ⟨rfl, rfl⟩
      · rw [hMold j (by rw [hr.heap.len]; exact b1)] at mj
        exact (hnew j oj b c' b2 b3 lj mj c (by cases mi; rfl)).elim
      · cases lj
      · rfl
  · rcases hres with ⟨rfl, rfl, r3, r4, rfl⟩ | ⟨b', c', cur, rfl, rfl, r3, r4, r5, r6, r7, r8, r9, r10⟩
    · rw [r3]; exact .slnil hMnew
    · exact .sl hMnew r5 r6
/-- append(x[:k], x[j:]...) of a row of one's own, wherever j lies. -/
theorem ops_appendView (hΓ : TOK P Γ) {t te : TypeId} {i1 i2 : TI} {x y : Operand} {id n n0 j m : Nat} {ds0 : List D} (h1 : Γ t = some i1) (h1' : i1.desc = .slice te) (h2 : Γ te = some i2) (hz : Nat.beq i2.zero.cells.size i2.size = true) (hz0 : Nat.blt 0 i2.size = true)
    (hx : fr.ev x = some (.sl id n)) (hy : fr.ev y = some (.slo id i2.size j m)) (ho : hp[id]? = some (.row te i2.size n0 ds0)) (hn0 : n ≤ n0) (hjm : j + m = n0) (hb : (n + m) * i2.bytes ≤ 140737488355328) (hm : n + m ≤ maxLen) :
    OpS P N ⟨some d, .call ⟨.builtin .append, #[x, y], #[t, t]⟩, ty, pos, after, gd'⟩ fr hp (.sl hp.length (n + m)) (hp.set id .dead ++ [.row te i2.size (n + m) (ds0.take (n * i2.size) ++ ds0.drop (j * i2.size))]) := by
  have hlen : ∀ Z w M a, Rel Z hp M w fr a N → ds0.length = n0 * i2.size := fun Z w M a hr => by
    have hidM : id < M.l.length := by rw [hr.heap.len]; exact (List.getElem?_eq_some_iff.1 ho).1
    have hob := hr.heap.obj id _ _ ho (List.getElem?_eq_getElem hidM)
    generalize M.l[id] = mo at hob
    cases mo with
    | none => obtain ⟨rfl, rfl⟩ := hob; simp
    | some bc => exact hob.1
  intro Z w M a hr
  have hdl := hlen Z w M a hr
  have hjn : j * i2.size + m * i2.size = n0 * i2.size := by rw [← Nat.add_mul, hjm]
  refine ops_appendG (m := m) (ys := ds0.drop (j * i2.size)) hΓ h1 h1' h2 hz hz0 hx ho hn0 rfl (fun Z w M a hr => ?_) (by rw [List.length_drop, hdl]; omega) hb hm Z w M a hr
  have hidM : id < M.l.length := by rw [hr.heap.len]; exact (List.getElem?_eq_some_iff.1 ho).1
  have hob := hr.heap.obj id _ _ ho (List.getElem?_eq_getElem hidM)
  have hvy := hr.ev hy
  have hMid : M.l[id]? = some M.l[id] := List.getElem?_eq_getElem hidM
  generalize M.l[id] = mo at hob hMid
  generalize a.eval y = vy at hvy
  cases hvy with
  | slonil hM =>
    rw [hMid] at hM
    obtain rfl := Option.some.inj hM
    obtain ⟨rfl, _⟩ := hob
    exact ⟨[], .inl ⟨rfl, rfl, rfl⟩, by simp, fun j u d h => by simp at h, fun u h => by cases h⟩
  | slo hM hn hmx =>
    rename_i b c
    rw [hMid] at hM
    obtain rfl := Option.some.inj hM
    obtain ⟨_, cs, hbk, hcs, hnc, hcm, hcr⟩ := hob
    have hmul : n0 * i2.size ≤ c * i2.size := Nat.mul_le_mul_right _ hnc
    have hnl : ((cs.toList.drop (j * i2.size)).take (m * i2.size)).length = m * i2.size := by simp only [List.length_take, List.length_drop, Array.length_toList, hcs]; omega
    have hng : ∀ (q : Nat) (u : Value), ((cs.toList.drop (j * i2.size)).take (m * i2.size))[q]? = some u → cs[j * i2.size + q]? = some u ∧ q < m * i2.size := fun q u hq => by
      have hlt : q < m * i2.size := by rw [← hnl]; exact (List.getElem?_eq_some_iff.1 hq).1
      rw [List.getElem?_take_of_lt hlt, List.getElem?_drop, Array.getElem?_toList] at hq
      exact ⟨hq, hlt⟩
    have hvd : ∀ (q : Nat) (u : Value) (d : D), ((cs.toList.drop (j * i2.size)).take (m * i2.size))[q]? = some u → (ds0.drop (j * i2.size))[q]? = some d → VD w (ownZ Z hp M) d u := fun q u d hu hd => by
      obtain ⟨f1, _⟩ := hng q u hu
      rw [List.getElem?_drop] at hd
      obtain ⟨v, f2, f3⟩ := hcr _ d hd
      rw [f1] at f2
      cases f2
      exact f3
    refine ⟨_, .inr ⟨b, _, _, rfl, fun q u hq => ?_⟩, by rw [hnl, List.length_drop, hdl]; omega, hvd, fun u hu => ?_⟩
    · obtain ⟨f1, f2⟩ := hng q u hq
      have hoff : (if c = j then 0 else j * i2.size) + q = j * i2.size + q := by
        split
        · rename_i h
          subst h
          have : m = 0 := by omega
          subst this
          simp at f2
        · rfl
      rw [hoff, cell_of_row w b _ cs te _ hbk]
      exact f1
    · obtain ⟨q, hq, rfl⟩ := List.getElem_of_mem hu
      have hq' := List.getElem?_eq_getElem hq
      have hqd : (ds0.drop (j * i2.size))[q]? = some ((ds0.drop (j * i2.size))[q]'(by rw [List.length_drop, hdl]; omega)) := List.getElem?_eq_getElem _
      exact (hvd q _ _ hq' hqd).one
theorem push_row (hr : RelH Z hp M w) {w' : World} (hb : RowKit.Below w.heap.size w w') (o : Ob) (m : Option (Nat × Nat)) (hm : ∀ b c, m = some (b, c) → w.heap.size ≤ b)
    (hm2 : ∀ b c, m = some (b, c) → b < w'.heap.size)
    (ho : ∀ O', Stp w (ownZ Z hp M) w' O' → ObR w' O' (M.app [m]) o m) (hog : o.isBag = false := by rfl) :
    RelH Z (hp ++ [o]) (M.app [m]) w' ∧ Stp w (own hp M) w' (own (hp ++ [o]) (M.app [m])) ∧ Agr hp.length M (M.app [m]) := by
  have hob : ∀ b, b < w.heap.size → obOwn (hp ++ [o]) (M.app [m]) b → obOwn hp M b := by
    rintro b hlt ⟨i, o', c', h1, h2, h3⟩
    rcases getq_snoc h3 with ⟨hi, h4⟩ | ⟨hi, h4⟩
    · rcases getq_snoc h1 with ⟨_, h5⟩ | ⟨hi', _⟩
      · exact ⟨i, o', c', h5, h2, h4⟩
      · rw [hr.len] at hi; omega
    · have := hm _ _ h4; omega
  have hst : Stp w (own hp M) w' (own (hp ++ [o]) (M.app [m])) := by
    exact .mk' hb.size (fun b hlt _ => hb.block b hlt) (fun b hlt h => own_imp h (hob b hlt) (fun g => g.of (bag_snoc hog)) rfl) hb.os hb.tape hb.output rfl (fun g => g.of (bag_snoc hog)) fun x hx _ => hb.block _ (hr.bags.tgs x hx).1
  have hM : ∀ i, i < M.l.length → (M.app [m]).l[i]? = M.l[i]? := fun i hi => List.getElem?_append_left hi
  refine ⟨⟨by simp [hr.len], fun i o' m' h1 h2 => ?_, fun b hlt hz => ?_, fun b hz => Nat.lt_of_lt_of_le (hr.old b hz) hb.size, hr.amb_stp hst, fun i j oi oj b c1 c2 hi hj li lj mi mj => ?_, hr.bags.mono rfl hb.size hob (bag_snoc hog)⟩, hst, ⟨by simp [hr.len], fun i hi => hM i (by rw [hr.len]; exact hi)⟩⟩
  · rcases getq_snoc h1 with ⟨hi, h3⟩ | ⟨hi, rfl⟩
    · have hi' : i < M.l.length := by rw [hr.len]; exact hi
      rw [hM i hi'] at h2
      have := hr.obj i o' m' h3 h2
      refine this.move (k := M.l.length) (stp_z Z hst) hM this.bel (fun b c' e hl => ?_) fun _ _ _ _ => ⟨rfl, fun x hx _ => hb.block _ (hr.bags.tgs x hx).1⟩
      subst e
      exact hb.block _ (hr.block_ob ⟨i, o', c', h3, hl, h2⟩)
    · subst hi
      rw [← hr.len] at h2
      have : m' = m := by
        rcases getq_snoc h2 with ⟨hi, _⟩ | ⟨_, h⟩
        · omega
        · exact h.symm
      subst this
      exact ho _ (stp_z Z hst)
  · by_cases hb' : b < w.heap.size
    · exact hr.apart b (hst.own b hb' hlt) hz
    · exact absurd (hr.old b hz) hb'
  · rcases getq_snoc hi with ⟨hi1, hi2⟩ | ⟨hi1, hi2⟩
    · rcases getq_snoc hj with ⟨hj1, hj2⟩ | ⟨hj1, hj2⟩
      · rw [hM i (by rw [hr.len]; exact hi1)] at mi
        rw [hM j (by rw [hr.len]; exact hj1)] at mj
        exact hr.inj i j oi oj b c1 c2 hi2 hj2 li lj mi mj
      · exfalso
        rw [hM i (by rw [hr.len]; exact hi1)] at mi
        rcases getq_snoc mj with ⟨h, _⟩ | ⟨_, h⟩
        · rw [hr.len] at h; omega
        · have h6 := hm _ _ h
          have := hr.block_ob ⟨i, oi, c1, hi2, li, mi⟩
          omega
    · rcases getq_snoc hj with ⟨hj1, hj2⟩ | ⟨hj1, hj2⟩
      · exfalso
        rw [hM j (by rw [hr.len]; exact hj1)] at mj
        rcases getq_snoc mi with ⟨h, _⟩ | ⟨_, h⟩
        · rw [hr.len] at h; omega
        · have h6 := hm _ _ h
          have := hr.block_ob ⟨j, oj, c2, hj2, lj, mj⟩
          omega
      · omega
theorem apd_nil {α : Type} {l r : List α} (h : apd ([] : List α) l = some r) : r = l ∧ l.length ≤ 4294967296 := by
  obtain ⟨rfl, h2⟩ := apd_ok h
  exact ⟨rfl, by simpa using h2⟩
/-- append(nil, x...): a row of one's own. -/
theorem ops_appendNilT {α : Type} {enc : α → List D} (hΓ : TOK P Γ) {t te : TypeId} {i1 i2 : TI} {y : Operand} {l r : List α} (hap : apd ([] : List α) l = some r) (h1 : Γ t = some i1) (h1' : i1.desc = .slice te) (h2 : Γ te = some i2) (hz : Nat.beq i2.zero.cells.size i2.size = true) (hz0 : Nat.blt 0 i2.size = true)
    (hy : fr.ev y = some (.d (Sl enc l))) (hbytes : Nat.ble (4294967296 * i2.bytes) 140737488355328 = true) (henc : ∀ a, (enc a).length = i2.size) :
    OpS P N ⟨some d, .call ⟨.builtin .append, #[.const (.slice none 0 0), y], #[t, t]⟩, ty, pos, after, gd'⟩ fr hp (.sl hp.length r.length) (hp ++ [.row te i2.size r.length (r.flatMap enc)]) := by
  obtain ⟨rfl, hlen⟩ := apd_nil hap
  have hfl : (r.flatMap enc).length = r.length * i2.size := by
    clear hap hy hlen
    induction r with
    | nil => simp
    | cons a r ih => rw [List.flatMap_cons, List.length_append, ih, henc, List.length_cons, Nat.add_mul]; omega
  intro Z w M a hr
  obtain ⟨u1, _⟩ := hΓ t _ h1
  rw [h1'] at u1
  obtain ⟨_, inf, e1, e2, e3, e4⟩ := hΓ te _ h2
  have hzs : i2.zero.cells.size = inf.size := by rw [e2]; exact Nat.eq_of_beq_eq_true hz
  have hvy := hr.ev hy
  have hb := Nat.le_of_ble_eq_true hbytes
  have hmul : r.length * i2.bytes ≤ 4294967296 * i2.bytes := Nat.mul_le_mul_right _ hlen
  have hsrc : ∃ news : List Value, ((a.eval y = .slice none 0 0 ∧ r.length = 0 ∧ news = []) ∨ ∃ b off cap, a.eval y = .slice (some ⟨b, off, none⟩) r.length cap ∧ (∀ (j : Nat) (u : Value), news[j]? = some u → w.cell? ⟨b, off + j, none⟩ = some u)) ∧
      news.length = (r.flatMap enc).length ∧ (∀ (j : Nat) (u : Value) (d : D), news[j]? = some u → (r.flatMap enc)[j]? = some d → VD w (ownZ Z hp M) d u) ∧ ∀ u ∈ news, u.oneCell' = true := by
    unfold Sl at hvy
    generalize r.flatMap enc = ys at hvy hfl ⊢
    generalize r.length = m at hvy ⊢
    generalize a.eval y = vy at hvy
    cases hvy with
    | d hd =>
      rcases data_cells hd with ⟨e, rfl, rfl⟩ | ⟨b, off, cap, vs, e, hl, hc, hv, h1⟩
      · exact ⟨[], .inl ⟨e, rfl, rfl⟩, rfl, fun j u d h => by simp at h, fun u h => by cases h⟩
      · exact ⟨vs, .inr ⟨b, off, cap, e, hc⟩, hl, hv, h1⟩
  obtain ⟨news, hsrc1, hsrc2, hsrc3, hsrc4⟩ := hsrc
  obtain ⟨v', w', mo', hrun, g1, g2, g3, g4, hres⟩ := app_core (P := P) (tyo := ty) (cs0 := #[]) (n := 0) none u1 e1 e4 hzs (by rw [e2]; exact nblt.1 hz0) (.inl ⟨rfl, rfl, rfl⟩) hsrc1 (by rw [hsrc2, hfl, e2]) hsrc4 (by simp only [maxLen]; omega) (by rw [e3, Nat.zero_add]; omega)
  have hbel : RowKit.Below w.heap.size w w' := ⟨g2, g3, g4, g1, fun k hk => by
    rcases hres with ⟨_, _, _, rfl, _⟩ | ⟨b', c', cur, r1, r2, r3, r4, r5, r6, r7, r8, r9, r10⟩
    · rfl
    · refine r9 k hk fun e => ?_
      rcases r10 with ⟨c, hc⟩ | h
      · cases hc
      · omega⟩
  obtain ⟨f1, f2, f3⟩ := push_row hr.heap hbel (.row te i2.size r.length (r.flatMap enc)) mo' (fun b c e => by
      rcases hres with ⟨r1, _⟩ | ⟨b', c', cur, r1, r2, r3, r4, r5, r6, r7, r8, r9, r10⟩
      · rw [r1] at e; cases e
      · rw [r1] at e; cases e
        rcases r10 with ⟨c, hc⟩ | h
        · cases hc
        · omega) (fun b c e => by
      rcases hres with ⟨r1, _⟩ | ⟨b', c', cur, r1, r2, r3, r4, r5, r6, r7, r8, r9, r10⟩
      · rw [r1] at e; cases e
      · rw [r1] at e; cases e
        exact (Array.getElem?_eq_some_iff.1 r3).1) (fun O' hst => by
      rcases hres with ⟨rfl, r2, r3, r4, _⟩ | ⟨b', c', cur, rfl, r2, r3, r4, r5, r6, r7, r8, r9, r10⟩
      · have h0 : r.length = 0 := by omega
        have : r = [] := List.eq_nil_of_length_eq_zero h0
        subst this
        exact ⟨rfl, rfl⟩
      · refine ⟨hfl, cur, r3, by rw [r4, e2], by omega, r6, fun j dd hj => ?_⟩
        have hlt : j < news.length := by rw [hsrc2]; exact (List.getElem?_eq_some_iff.1 hj).1
        have hn := List.getElem?_eq_getElem hlt
        have h8 := r8 _ _ hn
        rw [Nat.zero_mul, Nat.zero_add] at h8
        exact ⟨news[j], h8, (hsrc3 _ _ dd hn hj).step hst⟩)
  refine ⟨v', w', M.app [mo'], ?_, f1, ?_, f2, f3⟩
  · have hx : a.eval (.const (.slice none 0 0)) = .slice none 0 0 := rfl
    simp [execOp, resolve, invoke, builtin, hrun, hx]
  · have hMnew : (M.app [mo']).l[hp.length]? = some mo' := by rw [← hr.heap.len]; simp
    rcases hres with ⟨rfl, r2, r3, r4, _⟩ | ⟨b', c', cur, rfl, r2, r3, r4, r5, r6, r7, r8, r9, r10⟩
    · have h0 : r.length = 0 := by omega
      rw [r2, h0]
      exact .slnil hMnew
    · rw [r2, Nat.zero_add]
      exact .sl hMnew (by omega) r6
theorem flat_takeN {α : Type} {enc : α → List D} {sz : Nat} (henc : ∀ a, (enc a).length = sz) : ∀ (l : List α) (n : Nat), (l.flatMap enc).take (n * sz) = (l.take n).flatMap enc
  | [], n => by simp
  | x :: l, 0 => by simp
  | x :: l, n + 1 => by
    rw [List.flatMap_cons, List.take_succ_cons, List.flatMap_cons, List.take_append, List.take_of_length_le (by rw [henc, Nat.add_mul]; omega), henc, Nat.add_mul, Nat.one_mul, Nat.add_sub_cancel, flat_takeN henc l n]
theorem flat_dropN {α : Type} {enc : α → List D} {sz : Nat} (henc : ∀ a, (enc a).length = sz) : ∀ (l : List α) (n : Nat), (l.flatMap enc).drop (n * sz) = (l.drop n).flatMap enc
  | [], n => by simp
  | x :: l, 0 => by simp
  | x :: l, n + 1 => by
    rw [List.flatMap_cons, List.drop_succ_cons, List.drop_append, List.drop_eq_nil_of_le (by rw [henc, Nat.add_mul]; omega), henc, Nat.add_mul, Nat.one_mul, Nat.add_sub_cancel, flat_dropN henc l n, List.nil_append]
/-- append(x[:b], x[a:]...) of a row of one's own, in lists. -/
theorem ops_appendViewT {α : Type} {enc : α → List D} (hΓ : TOK P Γ) {t te : TypeId} {i1 i2 : TI} {x y : Operand} {id i k m sz : Nat} {l z1 z2 r : List α} {a b : Int} (hz1 : subZ l 0 b = some z1) (hz2 : subZ l a (l.length : Int) = some z2) (hap : apd z1 z2 = some r)
    (h1 : Γ t = some i1) (h1' : i1.desc = .slice te) (h2 : Γ te = some i2) (hz : Nat.beq i2.zero.cells.size i2.size = true) (hz0 : Nat.blt 0 i2.size = true)
    (hx : fr.ev x = some (.sl id i)) (hi : i = z1.length) (hy : fr.ev y = some (.slo id sz k m)) (hk : k = a.toNat) (hsz : sz = i2.size) (hm : m = z2.length) (ho : hp[id]? = some (.row te i2.size l.length (l.flatMap enc))) (hbytes : Nat.ble (4294967296 * i2.bytes) 140737488355328 = true) (henc : ∀ a, (enc a).length = i2.size) :
    OpS P N ⟨some d, .call ⟨.builtin .append, #[x, y], #[t, t]⟩, ty, pos, after, gd'⟩ fr hp (.sl hp.length r.length) (hp.set id .dead ++ [.row te i2.size r.length (r.flatMap enc)]) := by
  subst hi; subst hk; subst hsz; subst hm
  obtain ⟨rfl, hle⟩ := apd_ok hap
  obtain ⟨a1, b1, ea1, eb1, d1, d2, e1⟩ := subZ_ok hz1
  obtain ⟨a2, b2, ea2, eb2, f1, f2, e2⟩ := subZ_ok hz2
  obtain rfl : b2 = l.length := by omega
  obtain rfl : a1 = 0 := by omega
  subst ea2
  rw [Int.toNat_natCast] at hy
  have hl1 : z1.length = b1 := by rw [e1]; simp; omega
  have hl2 : z2.length = l.length - a2 := by rw [e2]; simp
  have hb := Nat.le_of_ble_eq_true hbytes
  have hmul : (z1.length + z2.length) * i2.bytes ≤ 4294967296 * i2.bytes := Nat.mul_le_mul_right _ hle
  have h := ops_appendView (P := P) (N := N) (d := d) (ty := ty) (pos := pos) (after := after) (gd' := gd') (j := a2) (m := z2.length) hΓ h1 h1' h2 hz hz0 hx hy ho (by omega) (by omega) (by omega) (by simp only [maxLen]; omega)
  rw [flat_takeN henc, flat_dropN henc, hl1] at h
  have t1 : l.take b1 = z1 := by rw [e1]; simp
  have t2 : l.drop a2 = z2 := by rw [e2, List.take_length]
  rw [t1, t2, ← hl1, ← List.flatMap_append, ← List.length_append] at h
  exact h
end
end Go.Gk
