import Derived.Test.YtmecneoeklldeaaGreatDoorCCond
set_option linter.all false
set_option maxRecDepth 100000
namespace Go.Gk
inductive RV:Kuq→Prop
 | num (n:Int) (h:n∈[0,5,-3]):RV ⟨1,n,[],(0,0,0,0)⟩
 | bool (n:Int) (h:0≤n∧n<2):RV ⟨3,n,[],(0,0,0,0)⟩
 | ver (n:Int) (h:n∈[2,5,12]):RV ⟨4,0,[],(1,n,0,0)⟩
 | words (w:Str) (h:w∈([[108,105,110,117,120],[109,97,99],[120,34,121,92,122]]:List Str)):RV ⟨2,0,w,(0,0,0,0)⟩
end Go.Gk
