/- The types of the program, as the typed evaluator has them. -/
import Derived.Test.YtamhndcofojppaaDoorSxK3
import Derived.Test.YtamhndcofojppaaDoorProg
namespace Go.SX
open Go.Proofs
namespace W
abbrev y0 : Ty := (.scons (.int .i64) (.scons (.int .i64) (.scons .bool (.scons (.int .u8) .snil))))
abbrev y1 : Ty := (.scons (.int .i64) (.scons .bool .snil))
abbrev y2 : Ty := (.scons (.int .u8) (.scons (.int .u8) .snil))
def T : Tab := [none, none, some (.int .i64), some (.int .i64), some .bool, some (.int .u8), some (.int .u8), some y0, some y0, some .str, some .str, some .str, some (.int .u64), none, none, none, none, none, none, none, none, some (.int .i32), none, some (.int .i64), none, none, none, none, none, some (.slice .str), some (.arr 8 (.int .i64)), none, none, none, none, none, none, some (.slice y1), none, some y1, some y1, none, some (.slice (.int .u8)), none, some (.bld 44 5), none, none, none, none, none, none, none, some (.arr 12 .str), none, none, none, none, none, none, none, none, none, none, none, some (.int .u64), some (.arr 256 (.int .u8)), some y2, some y2, some (.arr 16 y2), some (.int .u32), none, none, none, none, none, none, none, none, some (.int .u8), some (.int .u8), none, some (.int .i32), some (.int .i32), none, none]
theorem tab : tabB Tryd.prog T 0 T = true := by kernel_rfl
def fuel : Nat := 1099511627776
abbrev ps10 : List PK := [.val (.slice .str), .val .str]
abbrev rs10 : List RK := [.val .str]
abbrev ps29 : List PK := [.val .str, .val (.int .u8)]
abbrev rs29 : List RK := [.val (.int .i64)]
abbrev ps36 : List PK := [.val .str, .val (.int .u8)]
abbrev rs36 : List RK := [.val (.int .i64)]
end W
end Go.SX
