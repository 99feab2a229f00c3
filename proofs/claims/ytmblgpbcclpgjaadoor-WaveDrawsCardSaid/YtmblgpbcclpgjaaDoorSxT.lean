/- The types of the program, as the typed evaluator has them. -/
import Derived.Test.YtmblgpbcclpgjaaDoorSxK4
import Derived.Test.YtmblgpbcclpgjaaDoorProg
namespace Go.SX
open Go.Proofs
namespace W
abbrev y0 : Ty := (.scons (.int .i64) (.scons (.int .i64) (.scons .bool (.scons (.int .u8) .snil))))
abbrev y1 : Ty := (.scons (.int .u16) (.scons (.slice (.int .u8)) .snil))
abbrev y2 : Ty := (.scons (.int .i64) (.scons (.int .u16) (.scons (.slice (.int .u8)) .snil)))
abbrev y3 : Ty := (.scons (.int .u16) (.scons (.int .u8) (.scons .bool (.scons .bool (.scons .bool (.scons .bool (.scons .bool (.scons .bool (.scons .bool .snil)))))))))
abbrev y4 : Ty := (.scons .bool (.scons .bool (.scons .bool (.scons .bool (.scons .bool (.scons .bool .snil))))))
abbrev y5 : Ty := (.scons (.int .u8) (.scons (.int .u8) .snil))
def T : Tab := [none, none, some (.int .i64), some (.int .i64), some .bool, some (.int .u8), some (.int .u8), some y0, some y0, some .str, some .str, some .str, some (.int .u64), none, none, none, none, none, none, none, none, some (.int .i32), some (.int .u16), some (.slice y1), none, some (.slice (.int .u8)), some y1, some y1, none, some y2, some y2, none, some (.int .i64), none, none, none, none, none, none, some (.slice y3), none, none, none, some y3, some y3, none, some (.slice y4), some y4, some y4, none, none, none, none, none, none, none, none, none, some (.arr 7 .str), none, none, none, none, none, none, some (.int .u64), none, none, none, some (.bld 69 5), some y2, none, none, none, none, none, some (.slice .str), none, none, none, some (.arr 7 .bool), none, some (.arr 6 .bool), none, none, none, none, none, none, none, none, none, none, none, none, none, none, none, none, some (.int .u64), none, none, none, none, none, some (.arr 20 (.int .u8)), none, none, none, none, none, none, none, none, none, none, none, some (.int .u32), none, none, none, none, none, none, none, none, none, some (.arr 256 (.int .u8)), some y5, some y5, some (.arr 16 y5), none, none, none, none, none, some (.int .u8), some (.int .u8), none, some (.int .i32), some (.int .i32), none, none]
theorem tab : tabB Tryd.prog T 0 T = true := by kernel_rfl
def fuel : Nat := 1099511627776
abbrev ps45 : List PK := [.val .str, .val .str]
abbrev rs45 : List RK := [.val (.int .i64)]
abbrev ps37 : List PK := [.val .str, .val (.int .i64)]
abbrev rs37 : List RK := [.val .str]
abbrev ps64 : List PK := [.val .str, .val (.int .u8)]
abbrev rs64 : List RK := [.val (.int .i64)]
abbrev ps73 : List PK := [.val .str, .val (.int .u8)]
abbrev rs73 : List RK := [.val (.int .i64)]
abbrev ps41 : List PK := [.val (.slice .str), .val .str]
abbrev rs41 : List RK := [.val .str]
end W
end Go.SX
