/-
  Models of the library: more of strings, strconv.
-/
import Derived.Test.YtjmlnnanfkiakaaGreatDoorMStr
import Derived.Test.YtjmlnnanfkiakaaGreatDoorGk49
import Derived.Lib.Join
import Derived.Lib.ItoaNum
import Derived.Lib.Case
set_option linter.unusedVariables false
namespace Go.Gk
def m_strings_IndexByte (s : Str) (c : Int) : Option Int := some (Lib.indexByte s c.toNat.toUInt8)
/-- Numbers below a hundred. -/
def m_strconv_Itoa (n : Int) : Option Str := match n with
  | .ofNat k => gd (Nat.blt k 100) (some (Lib.decDigits k))
  | _ => none
def m_strings_Join (l : List Str) (sep : Str) : Option Str := gd (Nat.ble l.length 4294967296 && Nat.ble (Lib.join l sep).length 1099511627776) (some (Lib.join l sep))
/-- Of ASCII strings. -/
def m_strings_ToLower (s : Str) : Option Str := gd (s.all fun b => Nat.blt b.toNat 128) (gd (Nat.ble s.length 140737488355328) (some (Lib.toLowerA s)))
def m_slices_SortI (l : List Int) : Option (List Int) := gd (Nat.ble l.length 4294967296) (some (l.mergeSort fun x y => decide (x ≤ y)))
end Go.Gk
