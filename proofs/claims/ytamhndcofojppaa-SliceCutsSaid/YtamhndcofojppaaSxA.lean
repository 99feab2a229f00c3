/- Go functions as Lean functions: what the typed evaluator makes of their code; and that they do what these say. Printed by a program of this work. -/
import Derived.Test.YtamhndcofojppaaSxT
import Derived.Test.YtamhndcofojppaaSxLib
set_option maxRecDepth 1000000
set_option linter.unusedVariables false
namespace Go.SX
open Go.Proofs
namespace W
-- spinet/digit . sign
abbrev ps40 : List PK := [.val (.int .u8)]
abbrev rs40 : List RK := [.val (.int .u8)]
def F40 : (argT ps40).D → Option (resT rs40 (refT ps40)).D
  | (x0, _) =>
  br (ilt x0 10) (some (iadd IntKind.u8 48 x0, PUnit.unit)) (some (isub IntKind.u8 (iadd IntKind.u8 65 x0) 10, PUnit.unit))
def con40 : Con := ⟨40, ps40, rs40, F40, 0⟩
def cons40 : List Con := []
def ls40 : Nat → Option (LoopS (resT rs40 (refT ps40)).D) := (fun id => none)
theorem F40_eq (x) : F40 x = evalF T cons40 Try.f40 ps40 rs40 ls40 x := by
  obtain ⟨x0, u⟩ := x
  kernel_rfl
theorem all40 : allLoops (bodyOf Try.f40) = [] := by kernel_rfl
theorem ok40 : ConOk Try.prog con40 := by
  have h1 : Try.prog.follows .mixedOrders = true := by kernel_rfl
  have h2 : Try.f40.body = some (bodyOf Try.f40) := by kernel_rfl
  have h3 : (Try.f40.name == "runtime.NumGoroutine") = false := by kernel_rfl
  have h4 : Try.f40.results.toList.length = List.length rs40 := by kernel_rfl
  have h5 : Nat.ble (List.length ps40) Try.f40.ntmps = true := by kernel_rfl
  have hT : TabOk Try.prog T := tab_ok tab
  have hC : ∀ c ∈ cons40, ConOk Try.prog c := fun c hc => by cases hc
  have h6 := Try.func40
  have h7 := F40_eq
  have hall := all40
  generalize Try.prog = P at *
  generalize Try.f40 = fn at *
  refine func_all (fn := fn) (body := bodyOf fn) (ls := ls40) hT hC h1 h6 h2 h3 h4 h5 F40 h7 fun p hp Ls hLs => ?_
  rw [hall] at hp
  cases hp
-- spinet/digit . Hex
abbrev ps36 : List PK := [.val (.int .u64), .val (.int .i64)]
abbrev rs36 : List RK := [.val .str]
def inn36_0 : List LK := [.dat 0 (.int .u64), .dat 1 (.int .i64), .dat 6 (.int .i64), .obj 5 (.arr 16 (.int .u8))]
def out36_0 : List LK := [.dat 6 (.int .i64), .obj 5 (.arr 16 (.int .u8))]
def L36_0 : Nat → (liveT inn36_0).D → Option (LR (resT rs36 (refT ps36)).D (liveT out36_0).D)
  | 0, _ => none
  | k + 1, (x0, x1, x6, x5, _) =>
  br (ilt 0 x0)
    (obnd (F40 (iconv IntKind.u8 (iand IntKind.u64 x0 15), PUnit.unit)) fun y =>
      chk (inb (isub IntKind.i64 x6 1) 16)
        (chk (ile 0 4) ((L36_0 k) (ishr IntKind.u64 x0 4, x1, isub IntKind.i64 x6 1, upd x5 (Int.ofNat (tn (isub IntKind.i64 x6 1))) y.1, PUnit.unit))))
    (br (ieq x6 16)
      (obnd (F40 (iconv IntKind.u8 (iand IntKind.u64 x0 15), PUnit.unit)) fun y =>
        chk (inb (isub IntKind.i64 x6 1) 16)
          (chk (ile 0 4) ((L36_0 k) (ishr IntKind.u64 x0 4, x1, isub IntKind.i64 x6 1, upd x5 (Int.ofNat (tn (isub IntKind.i64 x6 1))) y.1, PUnit.unit))))
      (br (ilt (isub IntKind.i64 16 x6) (imin x1 16))
        (obnd (F40 (iconv IntKind.u8 (iand IntKind.u64 x0 15), PUnit.unit)) fun y =>
          chk (inb (isub IntKind.i64 x6 1) 16)
            (chk (ile 0 4) ((L36_0 k) (ishr IntKind.u64 x0 4, x1, isub IntKind.i64 x6 1, upd x5 (Int.ofNat (tn (isub IntKind.i64 x6 1))) y.1, PUnit.unit))))
        (some (LR.out (x6, x5, PUnit.unit)))))
def R36_0 : (liveT inn36_0).D → Option (LR (resT rs36 (refT ps36)).D (liveT out36_0).D) := L36_0 fuel
def F36 : (argT ps36).D → Option (resT rs36 (refT ps36)).D
  | (x0, x1, _) =>
  obnd (R36_0 (x0, x1, 16, [0, 0, 0, 0, 0, 0, 0, 0, 0, 0, 0, 0, 0, 0, 0, 0], PUnit.unit)) fun r =>
    lcase r some fun b => chk (inp b.1 16 16) (some (part b.2.1 b.1 16, PUnit.unit))
def con36 : Con := ⟨36, ps36, rs36, F36, 0⟩
def cons36 : List Con := [con40]
def ls36 : Nat → Option (LoopS (resT rs36 (refT ps36)).D) := (fun id => match Nat.beq id 0 with | true => some { inn := inn36_0, out := out36_0, run := R36_0 } | false => none)
theorem L36_0_eq (k : Nat) (x) : L36_0 (k + 1) x = evalL T cons36 Try.f36 ps36 rs36 ls36 0 (loopIn (bodyOf Try.f36) 0) inn36_0 out36_0 (L36_0 k) x := by
  obtain ⟨x0, x1, x6, x5, u⟩ := x
  kernel_rfl
theorem F36_eq (x) : F36 x = evalF T cons36 Try.f36 ps36 rs36 ls36 x := by
  obtain ⟨x0, x1, u⟩ := x
  kernel_rfl
theorem all36 : allLoops (bodyOf Try.f36) = [(0, loopIn (bodyOf Try.f36) 0)] := by kernel_rfl
theorem ok36 : ConOk Try.prog con36 := by
  have h1 : Try.prog.follows .mixedOrders = true := by kernel_rfl
  have h2 : Try.f36.body = some (bodyOf Try.f36) := by kernel_rfl
  have h3 : (Try.f36.name == "runtime.NumGoroutine") = false := by kernel_rfl
  have h4 : Try.f36.results.toList.length = List.length rs36 := by kernel_rfl
  have h5 : Nat.ble (List.length ps36) Try.f36.ntmps = true := by kernel_rfl
  have hT : TabOk Try.prog T := tab_ok tab
  have hC : ∀ c ∈ cons36, ConOk Try.prog c := by
    intro c hc
    simp only [cons36, List.mem_cons, List.not_mem_nil, or_false] at hc
    rcases hc with rfl
    · exact ok40
  have h6 := Try.func36
  have h7 := F36_eq
  have hall := all36
  have h8_0 := L36_0_eq
  generalize Try.prog = P at *
  generalize Try.f36 = fn at *
  refine func_all (fn := fn) (body := bodyOf fn) (ls := ls36) hT hC h1 h6 h2 h3 h4 h5 F36 h7 fun p hp Ls hLs => ?_
  rw [hall] at hp
  simp only [List.mem_cons, List.not_mem_nil, or_false] at hp
  rcases hp with rfl
  · cases hLs
    exact ⟨L36_0, fun _ => rfl, h8_0, fun x r h => ⟨fuel, h⟩⟩
-- spinet/digit . Pairs
abbrev ps37 : List PK := [.val (.slice (.int .u8))]
abbrev rs37 : List RK := [.val .str]
def inn37_0 : List LK := [.dat 10 (.slice (.int .u8)), .dat 11 (.int .i64), .dat 12 (.int .i64), .own 3 (.int .u8) true true]
def out37_0 : List LK := [.own 3 (.int .u8) true true]
def L37_0 : Nat → (liveT inn37_0).D → Option (LR (resT rs37 (refT ps37)).D (liveT out37_0).D)
  | 0, _ => none
  | k + 1, (x10, x11, x12, x3, _) =>
  br (ilt x12 x11)
    (chk (inb x12 (len x10))
      (chk (ile 0 4)
        (obnd (F40 (ishr IntKind.u8 (rd (Ty.int IntKind.u8) x10 x12) 4, PUnit.unit)) fun y =>
          obnd (F40 (iand IntKind.u8 (rd (Ty.int IntKind.u8) x10 x12) 15, PUnit.unit)) fun y_1 =>
            chk (fits x3 [y.1, y_1.1]) ((L37_0 k) (x10, x11, iadd IntKind.i64 x12 1, app x3 [y.1, y_1.1], PUnit.unit)))))
    (some (LR.out (x3, PUnit.unit)))
def R37_0 : (liveT inn37_0).D → Option (LR (resT rs37 (refT ps37)).D (liveT out37_0).D) := L37_0 fuel
def F37 : (argT ps37).D → Option (resT rs37 (refT ps37)).D
  | (x0, _) =>
  chk (inp 0 (imul IntKind.i64 2 (len x0)) 1099511627775)
    (chk (ile 0 0) (obnd (R37_0 (x0, len x0, 0, zeros (Ty.int IntKind.u8) 0, PUnit.unit)) fun r => lcase r some fun b => some (b.1, PUnit.unit)))
def con37 : Con := ⟨37, ps37, rs37, F37, 0⟩
def cons37 : List Con := [con40]
def ls37 : Nat → Option (LoopS (resT rs37 (refT ps37)).D) := (fun id => match Nat.beq id 0 with | true => some { inn := inn37_0, out := out37_0, run := R37_0 } | false => none)
theorem L37_0_eq (k : Nat) (x) : L37_0 (k + 1) x = evalL T cons37 Try.f37 ps37 rs37 ls37 0 (loopIn (bodyOf Try.f37) 0) inn37_0 out37_0 (L37_0 k) x := by
  obtain ⟨x10, x11, x12, x3, u⟩ := x
  kernel_rfl
theorem F37_eq (x) : F37 x = evalF T cons37 Try.f37 ps37 rs37 ls37 x := by
  obtain ⟨x0, u⟩ := x
  kernel_rfl
theorem all37 : allLoops (bodyOf Try.f37) = [(0, loopIn (bodyOf Try.f37) 0)] := by kernel_rfl
theorem ok37 : ConOk Try.prog con37 := by
  have h1 : Try.prog.follows .mixedOrders = true := by kernel_rfl
  have h2 : Try.f37.body = some (bodyOf Try.f37) := by kernel_rfl
  have h3 : (Try.f37.name == "runtime.NumGoroutine") = false := by kernel_rfl
  have h4 : Try.f37.results.toList.length = List.length rs37 := by kernel_rfl
  have h5 : Nat.ble (List.length ps37) Try.f37.ntmps = true := by kernel_rfl
  have hT : TabOk Try.prog T := tab_ok tab
  have hC : ∀ c ∈ cons37, ConOk Try.prog c := by
    intro c hc
    simp only [cons37, List.mem_cons, List.not_mem_nil, or_false] at hc
    rcases hc with rfl
    · exact ok40
  have h6 := Try.func37
  have h7 := F37_eq
  have hall := all37
  have h8_0 := L37_0_eq
  generalize Try.prog = P at *
  generalize Try.f37 = fn at *
  refine func_all (fn := fn) (body := bodyOf fn) (ls := ls37) hT hC h1 h6 h2 h3 h4 h5 F37 h7 fun p hp Ls hLs => ?_
  rw [hall] at hp
  simp only [List.mem_cons, List.not_mem_nil, or_false] at hp
  rcases hp with rfl
  · cases hLs
    exact ⟨L37_0, fun _ => rfl, h8_0, fun x r h => ⟨fuel, h⟩⟩
-- spinet/record . lines
abbrev ps38 : List PK := [.val y3]
abbrev rs38 : List RK := [.val (.arr 7 .bool)]
def F38 : (argT ps38).D → Option (resT rs38 (refT ps38)).D
  | (x0, _) =>
  some ([x0.2.2.1, x0.2.2.2.1, x0.2.2.2.2.1, x0.2.2.2.2.2.1, x0.2.2.2.2.2.2.1, x0.2.2.2.2.2.2.2.1, x0.2.2.2.2.2.2.2.2.1], PUnit.unit)
def con38 : Con := ⟨38, ps38, rs38, F38, 0⟩
def cons38 : List Con := []
def ls38 : Nat → Option (LoopS (resT rs38 (refT ps38)).D) := (fun id => none)
theorem F38_eq (x) : F38 x = evalF T cons38 Try.f38 ps38 rs38 ls38 x := by
  obtain ⟨x0, u⟩ := x
  kernel_rfl
theorem all38 : allLoops (bodyOf Try.f38) = [] := by kernel_rfl
theorem ok38 : ConOk Try.prog con38 := by
  have h1 : Try.prog.follows .mixedOrders = true := by kernel_rfl
  have h2 : Try.f38.body = some (bodyOf Try.f38) := by kernel_rfl
  have h3 : (Try.f38.name == "runtime.NumGoroutine") = false := by kernel_rfl
  have h4 : Try.f38.results.toList.length = List.length rs38 := by kernel_rfl
  have h5 : Nat.ble (List.length ps38) Try.f38.ntmps = true := by kernel_rfl
  have hT : TabOk Try.prog T := tab_ok tab
  have hC : ∀ c ∈ cons38, ConOk Try.prog c := fun c hc => by cases hc
  have h6 := Try.func38
  have h7 := F38_eq
  have hall := all38
  generalize Try.prog = P at *
  generalize Try.f38 = fn at *
  refine func_all (fn := fn) (body := bodyOf fn) (ls := ls38) hT hC h1 h6 h2 h3 h4 h5 F38 h7 fun p hp Ls hLs => ?_
  rw [hall] at hp
  cases hp
-- spinet/record . Text
abbrev ps31 : List PK := [.val y3]
abbrev rs31 : List RK := [.val .str]
def inn31_0 : List LK := [.dat 19 (.arr 7 .bool), .dat 20 (.int .i64), .own 3 (.int .u8) true false]
def out31_0 : List LK := [.own 3 (.int .u8) true false]
def L31_0 : Nat → (liveT inn31_0).D → Option (LR (resT rs31 (refT ps31)).D (liveT out31_0).D)
  | 0, _ => none
  | k + 1, (x19, x20, x3, _) =>
  br (ilt x20 7)
    (chk (inb x20 7)
      (br (bnot (rd Ty.bool x19 x20)) ((L31_0 k) (x19, iadd IntKind.i64 x20 1, x3, PUnit.unit))
        (br (ieq x20 0) (chk (inb 8 (len x3)) ((L31_0 k) (x19, iadd IntKind.i64 x20 1, upd x3 (Int.ofNat (tn 8)) 82, PUnit.unit)))
          (br (ieq x20 6) (chk (inb 16 (len x3)) ((L31_0 k) (x19, iadd IntKind.i64 x20 1, upd x3 (Int.ofNat (tn 16)) 77, PUnit.unit)))
            (chk (inb (isub IntKind.i64 x20 1) (len [65, 83, 76, 86, 66]))
              (chk (inb (iadd IntKind.i64 9 x20) (len x3))
                ((L31_0 k)
                  (x19, iadd IntKind.i64 x20 1,
                    upd x3 (Int.ofNat (tn (iadd IntKind.i64 9 x20))) (rd (Ty.int IntKind.u8) [65, 83, 76, 86, 66] (isub IntKind.i64 x20 1)),
                    PUnit.unit))))))))
    (some (LR.out (x3, PUnit.unit)))
def R31_0 : (liveT inn31_0).D → Option (LR (resT rs31 (refT ps31)).D (liveT out31_0).D) := L31_0 fuel
def F31 : (argT ps31).D → Option (resT rs31 (refT ps31)).D
  | (x0, _) =>
  obnd (F36 (iconv IntKind.u64 x0.1, 4, PUnit.unit)) fun y =>
    chk (fits y.1 [32])
      (obnd (F37 ([x0.2.1], PUnit.unit)) fun y_1 =>
        chk (fits (app y.1 [32]) y_1.1)
          (chk (fits (app (app y.1 [32]) y_1.1) [32, 87, 32, 45, 45, 45, 45, 45, 32, 45])
            (chk (fits (app (app (app y.1 [32]) y_1.1) [32, 87, 32, 45, 45, 45, 45, 45, 32, 45]) ([] : List Int))
              (obnd (F38 (x0, PUnit.unit)) fun y_2 =>
                obnd (R31_0 (y_2.1, 0, app (app (app y.1 [32]) y_1.1) [32, 87, 32, 45, 45, 45, 45, 45, 32, 45], PUnit.unit)) fun r =>
                  lcase r some fun b => some (b.1, PUnit.unit)))))
def con31 : Con := ⟨31, ps31, rs31, F31, 0⟩
def cons31 : List Con := [con36, con37, con38]
def ls31 : Nat → Option (LoopS (resT rs31 (refT ps31)).D) := (fun id => match Nat.beq id 0 with | true => some { inn := inn31_0, out := out31_0, run := R31_0 } | false => none)
theorem L31_0_eq (k : Nat) (x) : L31_0 (k + 1) x = evalL T cons31 Try.f31 ps31 rs31 ls31 0 (loopIn (bodyOf Try.f31) 0) inn31_0 out31_0 (L31_0 k) x := by
  obtain ⟨x19, x20, x3, u⟩ := x
  kernel_rfl
theorem F31_eq (x) : F31 x = evalF T cons31 Try.f31 ps31 rs31 ls31 x := by
  obtain ⟨x0, u⟩ := x
  kernel_rfl
theorem all31 : allLoops (bodyOf Try.f31) = [(0, loopIn (bodyOf Try.f31) 0)] := by kernel_rfl
theorem ok31 : ConOk Try.prog con31 := by
  have h1 : Try.prog.follows .mixedOrders = true := by kernel_rfl
  have h2 : Try.f31.body = some (bodyOf Try.f31) := by kernel_rfl
  have h3 : (Try.f31.name == "runtime.NumGoroutine") = false := by kernel_rfl
  have h4 : Try.f31.results.toList.length = List.length rs31 := by kernel_rfl
  have h5 : Nat.ble (List.length ps31) Try.f31.ntmps = true := by kernel_rfl
  have hT : TabOk Try.prog T := tab_ok tab
  have hC : ∀ c ∈ cons31, ConOk Try.prog c := by
    intro c hc
    simp only [cons31, List.mem_cons, List.not_mem_nil, or_false] at hc
    rcases hc with rfl | rfl | rfl
    · exact ok36
    · exact ok37
    · exact ok38
  have h6 := Try.func31
  have h7 := F31_eq
  have hall := all31
  have h8_0 := L31_0_eq
  generalize Try.prog = P at *
  generalize Try.f31 = fn at *
  refine func_all (fn := fn) (body := bodyOf fn) (ls := ls31) hT hC h1 h6 h2 h3 h4 h5 F31 h7 fun p hp Ls hLs => ?_
  rw [hall] at hp
  simp only [List.mem_cons, List.not_mem_nil, or_false] at hp
  rcases hp with rfl
  · cases hLs
    exact ⟨L31_0, fun _ => rfl, h8_0, fun x r h => ⟨fuel, h⟩⟩
-- spinet/record . Lines
abbrev ps22 : List PK := [.val (.slice y3)]
abbrev rs22 : List RK := [.val .str]
def inn22_0 : List LK := [.dat 6 (.slice y3), .dat 7 (.int .i64), .dat 8 (.int .i64), .obj 3 (.bld 70 5)]
def out22_0 : List LK := [.obj 3 (.bld 70 5)]
def L22_0 : Nat → (liveT inn22_0).D → Option (LR (resT rs22 (refT ps22)).D (liveT out22_0).D)
  | 0, _ => none
  | k + 1, (x6, x7, x8, x3, _) =>
  br (ilt x8 x7)
    (chk (inb x8 (len x6))
      (obnd (F31 (rd y3 x6 x8, PUnit.unit)) fun y =>
        chk (fits x3 y.1) (chk (fits (app x3 y.1) [10]) ((L22_0 k) (x6, x7, iadd IntKind.i64 x8 1, app (app x3 y.1) [10], PUnit.unit)))))
    (some (LR.out (x3, PUnit.unit)))
def R22_0 : (liveT inn22_0).D → Option (LR (resT rs22 (refT ps22)).D (liveT out22_0).D) := L22_0 fuel
def F22 : (argT ps22).D → Option (resT rs22 (refT ps22)).D
  | (x0, _) =>
  obnd (R22_0 (x0, len x0, 0, [], PUnit.unit)) fun r => lcase r some fun b => some (b.1, PUnit.unit)
def con22 : Con := ⟨22, ps22, rs22, F22, 0⟩
def cons22 : List Con := [con30, con31, con32, con33]
def ls22 : Nat → Option (LoopS (resT rs22 (refT ps22)).D) := (fun id => match Nat.beq id 0 with | true => some { inn := inn22_0, out := out22_0, run := R22_0 } | false => none)
theorem L22_0_eq (k : Nat) (x) : L22_0 (k + 1) x = evalL T cons22 Try.f22 ps22 rs22 ls22 0 (loopIn (bodyOf Try.f22) 0) inn22_0 out22_0 (L22_0 k) x := by
  obtain ⟨x6, x7, x8, x3, u⟩ := x
  kernel_rfl
theorem F22_eq (x) : F22 x = evalF T cons22 Try.f22 ps22 rs22 ls22 x := by
  obtain ⟨x0, u⟩ := x
  kernel_rfl
theorem all22 : allLoops (bodyOf Try.f22) = [(0, loopIn (bodyOf Try.f22) 0)] := by kernel_rfl
theorem ok22 : ConOk Try.prog con22 := by
  have h1 : Try.prog.follows .mixedOrders = true := by kernel_rfl
  have h2 : Try.f22.body = some (bodyOf Try.f22) := by kernel_rfl
  have h3 : (Try.f22.name == "runtime.NumGoroutine") = false := by kernel_rfl
  have h4 : Try.f22.results.toList.length = List.length rs22 := by kernel_rfl
  have h5 : Nat.ble (List.length ps22) Try.f22.ntmps = true := by kernel_rfl
  have hT : TabOk Try.prog T := tab_ok tab
  have hC : ∀ c ∈ cons22, ConOk Try.prog c := by
    intro c hc
    simp only [cons22, List.mem_cons, List.not_mem_nil, or_false] at hc
    rcases hc with rfl | rfl | rfl | rfl
    · exact ok30
    · exact ok31
    · exact ok32
    · exact ok33
  have h6 := Try.func22
  have h7 := F22_eq
  have hall := all22
  have h8_0 := L22_0_eq
  generalize Try.prog = P at *
  generalize Try.f22 = fn at *
  refine func_all (fn := fn) (body := bodyOf fn) (ls := ls22) hT hC h1 h6 h2 h3 h4 h5 F22 h7 fun p hp Ls hLs => ?_
  rw [hall] at hp
  simp only [List.mem_cons, List.not_mem_nil, or_false] at hp
  rcases hp with rfl
  · cases hLs
    exact ⟨L22_0, fun _ => rfl, h8_0, fun x r h => ⟨fuel, h⟩⟩
end W
end Go.SX
