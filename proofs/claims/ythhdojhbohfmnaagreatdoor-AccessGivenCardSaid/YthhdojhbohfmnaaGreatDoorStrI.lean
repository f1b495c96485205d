import Derived.Test.YthhdojhbohfmnaaGreatDoorGt
import Derived.Test.YthhdojhbohfmnaaGreatDoorMStrI
import Derived.Test.YthhdojhbohfmnaaGreatDoorSLays
import Derived.Shelf.Sort.Plain
set_option linter.all false
set_option maxRecDepth 100000
namespace Go.Proofs.YthhdojhbohfmnaaGreatDoor
open Go.Gk Go.Shelf
theorem Kup{l r:List Int}(h:Kto l=some r):EC Tryz.prog 140 [.sl 0 l.length] [.row 3 1 l.length (l.flatMap (eN .i64))] fun g hp'=>g=.tup []∧hp'=[.row 3 1 r.length (r.flatMap (eN .i64))]:=by
 obtain⟨h1,h⟩:=Kfw h
 cases h
 have hlen:(l.mergeSort fun x y=>decide (x≤y)).length=l.length:=List.length_mergeSort l
 have e:∀ l:List Int,l.flatMap (eN .i64)=(l.toArray.toList.map fun x=>D.v (Value.int .i64 x)):=fun l=>by
  induction l with
  | nil=>rfl
  | cons x l ih=>simp only[List.flatMap_cons,ih];rfl
 rw[hlen,e,e]
 exact EC.of_putRowG (α:=Int) (enc:=Value.int .i64) (d:=l.toArray) (d':=(l.mergeSort fun x y=>decide (x≤y)).toArray) (fun _=>rfl) (by simp) (by simp[hlen]) (fun h0 w=>by
   obtain rfl:l=[]:=by simpa using h0
   exact Tryz.slices_Sort_int_none none 0 w) fun w b c hb hH=>by
  simpa using Tryz.slices_Sort_int b 0 c l w hH hb (by have:=Nat.le_of_ble_eq_true h1;omega)
end Go.Proofs.YthhdojhbohfmnaaGreatDoor
