import Derived.Test.YtcihhlhmkcaeeaaGreatDoorGt
import Derived.Test.YtcihhlhmkcaeeaaGreatDoorMStrS
import Derived.Test.YtcihhlhmkcaeeaaGreatDoorItLays
set_option linter.all false
set_option maxRecDepth 100000
namespace Go.Proofs.YtcihhlhmkcaeeaaGreatDoor
open Go.Gk Go.Shelf Go.Sort
theorem Ktp{l r:List Str}(h:Krq l=some r):EC Tryz.prog 206 [.sl 0 l.length] [.row 9 1 l.length (l.flatMap eS)] fun g hp'=>g=.tup []∧hp'=[.row 9 1 r.length (r.flatMap eS)]:=by
 obtain⟨h1,h⟩:=Kdx h
 cases h
 have hlen:(l.mergeSort fun x y=>decide (x≤y)).length=l.length:=List.length_mergeSort l
 have e:∀ l:List Str,l.flatMap eS=(l.toArray.toList.map fun x=>D.v (encStr x)):=fun l=>by
  induction l with
  | nil=>rfl
  | cons x l ih=>simp only[List.flatMap_cons,ih];rfl
 rw[hlen,e,e]
 exact EC.of_putRowG (α:=List UInt8) (enc:=encStr) (d:=l.toArray) (d':=(l.mergeSort fun x y=>decide (x≤y)).toArray) (fun _=>rfl) (by simp) (by simp[hlen]) (fun h0 w=>by
   obtain rfl:l=[]:=by simpa using h0
   exact AnyM.slices_Sort_string_none Tryz.sort206 none 0 w) fun w b c hb hH=>by
  have hh:=AnyM.slices_Sort_string Tryz.sort206 b 0 c l w hH hb (by have:=Nat.le_of_ble_eq_true h1;omega)
  rw[show Tryz.sort206_ren.f 6=206 from rfl] at hh
  simpa using hh
end Go.Proofs.YtcihhlhmkcaeeaaGreatDoor
