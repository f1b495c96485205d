/-
  Models of the library: numbers out of texts.
-/
import Derived.Test.YtffmljbfffojlaaGreatDoorPUM
import Derived.Test.YtffmljbfffojlaaGreatDoorMStr
import Derived.Lib.Atoi
set_option linter.unusedVariables false
namespace Go.Gk
/-- The number; or an error. -/
def m_strconv_ParseUint (s : Str) (b k : Int) : Option (Option Int) := bi (m_internal_strconv_ParseUint 0 s b k) fun y => match y with
  | (n, .nilIface) => some (some n)
  | (_, .iface 122 (.int .i64 1)) => gd (Nat.ble s.length 281474976710656) (some none)
  | (_, .iface 122 (.int .i64 2)) => gd (Nat.ble s.length 281474976710656) (some none)
  | _ => none
def m_strings_Index (s p : Str) : Option Int := gd (Nat.blt s.length 4294967281) (some (Lib.index s p))
/-- Of a row of digits, perhaps behind a sign, at most eighteen. -/
def m_strconv_Atoi (s : Str) : Option Int := gd (Nat.ble s.length 18) (Lib.atoi s)
end Go.Gk
