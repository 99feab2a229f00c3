/- Functions of the library, at this program: their layings, and the contracts of the typed evaluator. -/
import Derived.Test.YtamhndcofojppaaDoorSxK3
import Derived.Test.YtamhndcofojppaaDoorSxT
namespace Go.Proofs
open Go.Shelf
def Tryd.ren : Go.Shelf.Ren := ⟨fun | 156 => 10 | 165 => 16 | 166 => 17 | 169 => 18 | 240 => 20 | 241 => 21 | 276 => 25 | 277 => 26 | n => n, fun | 31 => 29 | 37 => 42 | 70 => 41 | 72 => 44 | 75 => 47 | 80 => 50 | 76 => 48 | 127 => 53 | 164 => 56 | n => n, fun n => n⟩
theorem Tryd.lays156 : Go.Proofs.Lays.n156 Tryd.prog Tryd.ren := {
  mixed := by kernel_rfl
  f156 := Tryd.func10.trans (congrArg some (by kernel_rfl))
  f165 := Tryd.func16.trans (congrArg some (by kernel_rfl))
  f166 := Tryd.func17.trans (congrArg some (by kernel_rfl))
  f169 := Tryd.func18.trans (congrArg some (by kernel_rfl))
  f240 := Tryd.func20.trans (congrArg some (by kernel_rfl))
  f241 := Tryd.func21.trans (congrArg some (by kernel_rfl))
  f276 := Tryd.func25.trans (congrArg some (by kernel_rfl))
  f277 := Tryd.func26.trans (congrArg some (by kernel_rfl))
  t0 := Tryd.underlying0
  a0 := Tryd.isAgg0
  z0 := Tryd.sizeOf0
  v0 := Tryd.zeroValue0
  t3 := Tryd.underlying3
  a3 := Tryd.isAgg3
  z3 := Tryd.sizeOf3
  v3 := Tryd.zeroValue3
  t4 := Tryd.underlying4
  a4 := Tryd.isAgg4
  z4 := Tryd.sizeOf4
  v4 := Tryd.zeroValue4
  t9 := Tryd.underlying9
  a9 := Tryd.isAgg9
  z9 := Tryd.sizeOf9
  v9 := Tryd.zeroValue9
  t20 := Tryd.underlying20
  a20 := Tryd.isAgg20
  z20 := Tryd.sizeOf20
  v20 := Tryd.zeroValue20
  t31 := Tryd.underlying29
  a31 := Tryd.isAgg29
  z31 := Tryd.sizeOf29
  v31 := Tryd.zeroValue29
  t37 := Tryd.underlying42
  a37 := Tryd.isAgg42
  z37 := Tryd.sizeOf42
  v37 := Tryd.zeroValue42
  t70 := Tryd.underlying41
  a70 := Tryd.isAgg41
  z70 := Tryd.sizeOf41
  v70 := Tryd.zeroValue41
  t72 := Tryd.underlying44
  a72 := Tryd.isAgg44
  z72 := Tryd.sizeOf44
  v72 := Tryd.zeroValue44
  t75 := Tryd.underlying47
  a75 := Tryd.isAgg47
  z75 := Tryd.sizeOf47
  v75 := Tryd.zeroValue47
  t76 := Tryd.underlying48
  a76 := Tryd.isAgg48
  z76 := Tryd.sizeOf48
  v76 := Tryd.zeroValue48
  t127 := Tryd.underlying53
  a127 := Tryd.isAgg53
  z127 := Tryd.sizeOf53
  v127 := Tryd.zeroValue53
  t164 := Tryd.underlying56
  a164 := Tryd.isAgg56
  z164 := Tryd.sizeOf56
  v164 := Tryd.zeroValue56 }
theorem Tryd.extra : Builder.Extra Tryd.prog Tryd.ren := {
  sizeBuilder := by kernel_rfl
  liesBuilder := by kernel_rfl
  t5 := Tryd.underlying5
  a5 := Tryd.isAgg5
  z5 := Tryd.sizeOf5
  v5 := Tryd.zeroValue5
  infoByte := by kernel_rfl
  cellsByte := by kernel_rfl
  sizeByte := by kernel_rfl
  neB5 := by decide }
end Go.Proofs
namespace Go.SX
open Go.Proofs
namespace W
def F10 : (argT ps10).D → Option (resT rs10 (refT ps10)).D := joinF
def con10 : Con := ⟨10, ps10, rs10, F10, 0⟩
theorem ok10 : ConOk Tryd.prog con10 := ok_join Tryd.lays156 Tryd.extra
def F29 : (argT ps29).D → Option (resT rs29 (refT ps29)).D := cntF
def con29 : Con := ⟨29, ps29, rs29, F29, 0⟩
theorem ok29 : ConOk Tryd.prog con29 := ok_count Tryd.func29 (by kernel_rfl) (by kernel_rfl) (by kernel_rfl) (by kernel_rfl)
def F36 : (argT ps36).D → Option (resT rs36 (refT ps36)).D := ixF
def con36 : Con := ⟨36, ps36, rs36, F36, 0⟩
theorem ok36 : ConOk Tryd.prog con36 := ok_index Tryd.func36 (by kernel_rfl) (by kernel_rfl) (by kernel_rfl) (by kernel_rfl)
end W
end Go.SX
