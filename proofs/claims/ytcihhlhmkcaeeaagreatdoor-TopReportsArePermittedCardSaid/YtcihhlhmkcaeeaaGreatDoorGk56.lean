import Derived.Sort.Statements
set_option linter.all false
namespace Go.Gk
open Go.Sort
def ltO{α:Type}(cf:α→α→Option Int)(x y:α):Bool:=decide ((cf x y).getD 0<0)
structure SortOk{α:Type}(cf:α→α→Option Int)(l:List α):Prop where
 tot:∀ x y,∃ r,cf x y=some r
 swo:SWO (ltO cf)
 tie:∀ x,x∈l→∀ y,y∈l→ltO cf x y=false→ltO cf y x=false→x=y
 len:l.length<4611686018427387904
open Classical in
noncomputable def sortF {α:Type} (cf:α→α→Option Int) (l:List α):Option (List α):=if SortOk cf l then some (l.mergeSort fun x y=>!ltO cf y x) else none
end Go.Gk
