/- How the program's numbers stand as trees. -/
import Derived.Test.YtflfgjhdofphnabGreatDoorK2
set_option linter.unusedSimpArgs false
set_option linter.unusedVariables false
namespace Go.Avm
open Go Va
/-- A natural number of package nat. -/
def natV (n : Nat) : AV := .ptr [slV .u32 (dig 4294967296 n)] 0
theorem natV_frz (n : Nat) : Frz (natV n) = True := by simp only [natV, avmF, and_true]
/-- A natural number of the reference. -/
def refV (n : Nat) : AV := slV .i64 (dig 10000 n)
theorem refV_frz (n : Nat) : Frz (refV n) = True := by simp only [refV, avmF]
theorem B32 : 1 < 4294967296 := by decide
theorem B10 : 1 < 10000 := by decide
end Go.Avm
