/- ListsTexts, the plain law. -/
import Derived.Test.YtamhndcofojppaaDoorSxK3
import Derived.Test.YtamhndcofojppaaDoorSxB
set_option maxRecDepth 1000000
namespace Go.SX
namespace W
set_option linter.unusedVariables false
set_option linter.unusedSimpArgs false

def holds3 (s : Int) (n : Nat) : Bool := match F3 ((n : Int), s, ()) with
  | some (b, _) => b
  | none => false
theorem all_3 : (List.range 256).all (holds3 3) = true := by kernel_rfl
theorem all_0 : (List.range 256).all (holds3 0) = true := by kernel_rfl
end W
end Go.SX
