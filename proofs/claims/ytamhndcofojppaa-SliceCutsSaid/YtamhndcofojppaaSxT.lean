/- The types of the program, as the typed evaluator has them. -/
import Derived.Test.YtamhndcofojppaaSxK3
import Derived.Test.YtamhndcofojppaaProg
namespace Go.SX
open Go.Proofs
namespace W
abbrev y0 : Ty := (.scons (.int .i64) (.scons (.int .i64) (.scons .bool (.scons (.int .u8) .snil))))
abbrev y1 : Ty := (.scons (.int .i64) (.scons (.int .i64) (.scons (.int .u16) (.scons (.int .u16) .snil))))
abbrev y2 : Ty := (.scons .bool (.scons y1 .snil))
abbrev y3 : Ty := (.scons (.int .u16) (.scons (.int .u8) (.scons .bool (.scons .bool (.scons .bool (.scons .bool (.scons .bool (.scons .bool (.scons .bool .snil)))))))))
abbrev y4 : Ty := (.scons (.slice y1) (.scons (.int .i64) .snil))
abbrev y5 : Ty := (.scons (.slice y3) (.scons .bool .snil))
def T : Tab := [none, none, some (.int .i64), some (.int .i64), some .bool, some (.int .u8), some (.int .u8), some y0, some y0, some .str, some .str, some .str, some (.int .u64), none, none, none, none, none, none, none, none, some (.int .i32), some (.slice y2), some (.int .u16), some y3, some y3, none, some (.slice y1), some y4, some y4, none, none, some (.slice (.int .i64)), none, none, none, none, none, none, some (.slice y3), some (.slice y5), none, some y5, some y5, none, none, none, some y1, some y1, some y2, some y2, none, some (.int .i64), none, none, none, none, none, none, none, none, none, none, none, none, none, none, none, some (.slice (.int .u8)), none, some (.bld 70 5), none, none, none, none, none, none, none, none, some (.int .u64), none, some (.arr 7 .bool), none, none, none, none, some (.arr 16 (.int .u8)), none, some (.int .u64), none, none, none, none, none, some (.int .u32), some (.int .u8), some (.int .u8), none, some (.int .i32), some (.int .i32), none, none]
theorem tab : tabB Try.prog T 0 T = true := by kernel_rfl
def fuel : Nat := 1099511627776
end W
end Go.SX
