import Derived.Test.YtcihhlhmkcaeeaaGreatDoorGk49
import Derived.Sort.KeysCollected
set_option linter.all false
namespace Go.Gk
section
variable{P:Program}{hp:List Ob}{Z:Env}{M:Mp}{w:World}
noncomputable def rangeD {α σ β:Type} (f:α→σ→Option σ) (m:List α) (s:σ) (k:σ→Option β):Option β:=
 open Classical in if h:∃ r,rangeW f m s (fun q=>k q=some r) then some (Classical.choose h) else none
theorem Klv{α σ β:Type}{f:α→σ→Option σ}{m:List α}{s:σ}{k:σ→Option β}{r:β}(h:rangeD f m s k=some r):rangeW f m s fun q=>k q=some r:=by
 unfold rangeD at h
 split at h
 ·rename_i hx
  cases h
  exact Classical.choose_spec hx
 cases h
theorem Klw{α σ β:Type}{f:α→σ→Option σ}{m:List α}{s:σ}{k:σ→Option β}{r:β}(h:rangeW f m s fun q=>k q=some r):rangeD f m s k=some r:=by
 have hx:∃ r,rangeW f m s (fun q=>k q=some r):=⟨r,h⟩
 unfold rangeD
 rw[dif_pos hx]
 obtain⟨q,e1,e2⟩:=h m (.refl _)
 obtain⟨q',e3,e4⟩:=Classical.choose_spec hx m (.refl _)
 rw[e1] at e3;cases e3
 rw[←e4,e2]
def sortK{V:Type}(m:List (List UInt8×V)):List (List UInt8):=(m.map (·.1)).mergeSort fun x y=>decide (x≤y)
def rNil{H:Type}(_:Value):Option (DataW H×List MemPlace):=some (.nil,[])
def SortsKeys(P:Program)(f it:FuncId)(kt:TypeId):Prop:=
 ∀ (W:World) (Bm b nn:Nat) (D0:DataW Unit),Bm<W.heap.size→W.cell? ⟨Bm,0,none⟩=some (.map (some b))→W.ownsMap P kt rNil b nn D0→Maps.size D0≤4294967296→
  Calls P f #[.func (.func it) #[] #[.pointer (some ⟨Bm,0,none⟩)]] W fun e w'=>∃ (v:Value) (ss:List (List UInt8)),e=.returned v∧ss.Perm (strKeys D0)∧w'.ownsRow W.heap.size kt 1 v ss.length ((ss.mergeSort (fun x y=>decide (x≤y))).map kS)∧RowKit.Below W.heap.size W w'
def BoxesMap(P:Program)(f it:FuncId)(mt:TypeId):Prop:=
 ∀ (mb:Option Nat) (W:World),Calls P f #[.map mb] W fun e w'=>e=.returned (.func (.func it) #[] #[.pointer (some ⟨W.heap.size,0,none⟩)])∧w'=W.alloc (.cells #[.map mb] mt)
end
end Go.Gk
