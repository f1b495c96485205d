import Derived.WalkKit
set_option linter.all false
namespace Go.Gk
def TabX(w:World):Prop:=True
end Go.Gk
