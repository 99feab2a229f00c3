/- Go functions as Lean functions: what the typed evaluator makes of their code; and that they do what these say. Printed by a program of this work. -/
import Derived.Test.YtamhndcofojppaaDoorSxA
set_option maxRecDepth 1000000
set_option linter.unusedVariables false
namespace Go.SX
open Go.Proofs
namespace W
-- spinet/lists . bits
abbrev ps12 : List PK := [.val .str, .val (.int .i64)]
abbrev rs12 : List RK := [.val (.int .u8)]
def inn12_0 : List LK := [.dat 0 .str, .dat 10 (.arr 8 (.int .i64)), .dat 11 (.int .i64)]
def out12_0 : List LK := []
def L12_0 : Nat → (liveT inn12_0).D → Option (LR (resT rs12 (refT ps12)).D (liveT out12_0).D)
  | 0, _ => none
  | k + 1, (x0, x10, x11, _) =>
  br (ilt x11 8)
    (chk (inb x11 8)
      (obnd (F9 (rd (Ty.int IntKind.i64) x10 x11, PUnit.unit)) fun y =>
        br (seq y.1 x0) (chk (ile 0 x11) (some (LR.ret (ishl IntKind.u8 1 x11, PUnit.unit)))) ((L12_0 k) (x0, x10, iadd IntKind.i64 x11 1, PUnit.unit))))
    (some (LR.out PUnit.unit))
def R12_0 : (liveT inn12_0).D → Option (LR (resT rs12 (refT ps12)).D (liveT out12_0).D) := L12_0 fuel
def F12 : (argT ps12).D → Option (resT rs12 (refT ps12)).D
  | (x0, x1, _) =>
  br (seq x0 [68]) (some (6, PUnit.unit))
    (obnd (F8 (x1, PUnit.unit)) fun y => obnd (R12_0 (x0, y.1, 0, PUnit.unit)) fun r => lcase r some fun b => some (0, PUnit.unit))
def con12 : Con := ⟨12, ps12, rs12, F12, 0⟩
def cons12 : List Con := [con8, con9]
def ls12 : Nat → Option (LoopS (resT rs12 (refT ps12)).D) := (fun id => match Nat.beq id 0 with | true => some { inn := inn12_0, out := out12_0, run := R12_0 } | false => none)
theorem L12_0_eq (k : Nat) (x) : L12_0 (k + 1) x = evalL T cons12 Tryd.f12 ps12 rs12 ls12 0 (loopIn (bodyOf Tryd.f12) 0) inn12_0 out12_0 (L12_0 k) x := by
  obtain ⟨x0, x10, x11, u⟩ := x
  kernel_rfl
theorem F12_eq (x) : F12 x = evalF T cons12 Tryd.f12 ps12 rs12 ls12 x := by
  obtain ⟨x0, x1, u⟩ := x
  kernel_rfl
theorem all12 : allLoops (bodyOf Tryd.f12) = [(0, loopIn (bodyOf Tryd.f12) 0)] := by kernel_rfl
theorem ok12 : ConOk Tryd.prog con12 := by
  have h1 : Tryd.prog.follows .mixedOrders = true := by kernel_rfl
  have h2 : Tryd.f12.body = some (bodyOf Tryd.f12) := by kernel_rfl
  have h3 : (Tryd.f12.name == "runtime.NumGoroutine") = false := by kernel_rfl
  have h4 : Tryd.f12.results.toList.length = List.length rs12 := by kernel_rfl
  have h5 : Nat.ble (List.length ps12) Tryd.f12.ntmps = true := by kernel_rfl
  have hT : TabOk Tryd.prog T := tab_ok tab
  have hC : ∀ c ∈ cons12, ConOk Tryd.prog c := by
    intro c hc
    simp only [cons12, List.mem_cons, List.not_mem_nil, or_false] at hc
    rcases hc with rfl | rfl
    · exact ok8
    · exact ok9
  have h6 := Tryd.func12
  have h7 := F12_eq
  have hall := all12
  have h8_0 := L12_0_eq
  generalize Tryd.prog = P at *
  generalize Tryd.f12 = fn at *
  refine func_all (fn := fn) (body := bodyOf fn) (ls := ls12) hT hC h1 h6 h2 h3 h4 h5 F12 h7 fun p hp Ls hLs => ?_
  rw [hall] at hp
  simp only [List.mem_cons, List.not_mem_nil, or_false] at hp
  rcases hp with rfl
  · cases hLs
    exact ⟨L12_0, fun _ => rfl, h8_0, fun x r h => ⟨fuel, h⟩⟩
-- spinet/lists . Read
abbrev ps5 : List PK := [.val .str, .val (.int .i64)]
abbrev rs5 : List RK := [.val (.int .u8), .val (.int .i64)]
def inn5_0 : List LK := [.dat 1 (.int .i64), .dat 6 (.int .u8), .dat 13 (.slice .str), .dat 14 (.int .i64), .dat 15 (.int .i64)]
def out5_0 : List LK := [.dat 6 (.int .u8)]
def L5_0 : Nat → (liveT inn5_0).D → Option (LR (resT rs5 (refT ps5)).D (liveT out5_0).D)
  | 0, _ => none
  | k + 1, (x1, x6, x13, x14, x15, _) =>
  br (ilt x15 x14)
    (chk (inb x15 (len x13))
      (obnd (F12 (rd Ty.str x13 x15, x1, PUnit.unit)) fun y =>
        br (ieq y.1 0) (some (LR.ret (0, 40, PUnit.unit)))
          (br (bnot (ieq (iand IntKind.u8 x6 y.1) 0)) (some (LR.ret (0, 41, PUnit.unit)))
            ((L5_0 k) (x1, ior IntKind.u8 x6 y.1, x13, x14, iadd IntKind.i64 x15 1, PUnit.unit)))))
    (some (LR.out (x6, PUnit.unit)))
def R5_0 : (liveT inn5_0).D → Option (LR (resT rs5 (refT ps5)).D (liveT out5_0).D) := L5_0 fuel
def F5 : (argT ps5).D → Option (resT rs5 (refT ps5)).D
  | (x0, x1, _) =>
  br (seq x0 []) (some (0, 0, PUnit.unit))
    (obnd (F11 (x0, [44], PUnit.unit)) fun y =>
      obnd (R5_0 (x1, 0, y.1, len y.1, 0, PUnit.unit)) fun r => lcase r some fun b => some (b.1, 0, PUnit.unit))
def con5 : Con := ⟨5, ps5, rs5, F5, 0⟩
def cons5 : List Con := [con11, con12]
def ls5 : Nat → Option (LoopS (resT rs5 (refT ps5)).D) := (fun id => match Nat.beq id 0 with | true => some { inn := inn5_0, out := out5_0, run := R5_0 } | false => none)
theorem L5_0_eq (k : Nat) (x) : L5_0 (k + 1) x = evalL T cons5 Tryd.f5 ps5 rs5 ls5 0 (loopIn (bodyOf Tryd.f5) 0) inn5_0 out5_0 (L5_0 k) x := by
  obtain ⟨x1, x6, x13, x14, x15, u⟩ := x
  kernel_rfl
theorem F5_eq (x) : F5 x = evalF T cons5 Tryd.f5 ps5 rs5 ls5 x := by
  obtain ⟨x0, x1, u⟩ := x
  kernel_rfl
theorem all5 : allLoops (bodyOf Tryd.f5) = [(0, loopIn (bodyOf Tryd.f5) 0)] := by kernel_rfl
theorem ok5 : ConOk Tryd.prog con5 := by
  have h1 : Tryd.prog.follows .mixedOrders = true := by kernel_rfl
  have h2 : Tryd.f5.body = some (bodyOf Tryd.f5) := by kernel_rfl
  have h3 : (Tryd.f5.name == "runtime.NumGoroutine") = false := by kernel_rfl
  have h4 : Tryd.f5.results.toList.length = List.length rs5 := by kernel_rfl
  have h5 : Nat.ble (List.length ps5) Tryd.f5.ntmps = true := by kernel_rfl
  have hT : TabOk Tryd.prog T := tab_ok tab
  have hC : ∀ c ∈ cons5, ConOk Tryd.prog c := by
    intro c hc
    simp only [cons5, List.mem_cons, List.not_mem_nil, or_false] at hc
    rcases hc with rfl | rfl
    · exact ok11
    · exact ok12
  have h6 := Tryd.func5
  have h7 := F5_eq
  have hall := all5
  have h8_0 := L5_0_eq
  generalize Tryd.prog = P at *
  generalize Tryd.f5 = fn at *
  refine func_all (fn := fn) (body := bodyOf fn) (ls := ls5) hT hC h1 h6 h2 h3 h4 h5 F5 h7 fun p hp Ls hLs => ?_
  rw [hall] at hp
  simp only [List.mem_cons, List.not_mem_nil, or_false] at hp
  rcases hp with rfl
  · cases hLs
    exact ⟨L5_0, fun _ => rfl, h8_0, fun x r h => ⟨fuel, h⟩⟩
-- spinet/spinetref17 . Code
abbrev ps14 : List PK := [.val (.int .i64), .val .bool]
abbrev rs14 : List RK := [.val (.int .i64)]
def F14 : (argT ps14).D → Option (resT rs14 (refT ps14)).D
  | (x0, x1, _) =>
  br x1
    (br (ieq x0 6) (some (4, PUnit.unit))
      (chk (inb x0 8) (some (rd (Ty.int IntKind.i64) [10, 8, 9, 11, 1, 2, 3, 5] (Int.ofNat (tn x0)), PUnit.unit))))
    (chk (inb x0 8) (some (rd (Ty.int IntKind.i64) [10, 8, 9, 11, 1, 2, 3, 5] (Int.ofNat (tn x0)), PUnit.unit)))
def con14 : Con := ⟨14, ps14, rs14, F14, 0⟩
def cons14 : List Con := []
def ls14 : Nat → Option (LoopS (resT rs14 (refT ps14)).D) := (fun id => none)
theorem F14_eq (x) : F14 x = evalF T cons14 Tryd.f14 ps14 rs14 ls14 x := by
  obtain ⟨x0, x1, u⟩ := x
  kernel_rfl
theorem all14 : allLoops (bodyOf Tryd.f14) = [] := by kernel_rfl
theorem ok14 : ConOk Tryd.prog con14 := by
  have h1 : Tryd.prog.follows .mixedOrders = true := by kernel_rfl
  have h2 : Tryd.f14.body = some (bodyOf Tryd.f14) := by kernel_rfl
  have h3 : (Tryd.f14.name == "runtime.NumGoroutine") = false := by kernel_rfl
  have h4 : Tryd.f14.results.toList.length = List.length rs14 := by kernel_rfl
  have h5 : Nat.ble (List.length ps14) Tryd.f14.ntmps = true := by kernel_rfl
  have hT : TabOk Tryd.prog T := tab_ok tab
  have hC : ∀ c ∈ cons14, ConOk Tryd.prog c := fun c hc => by cases hc
  have h6 := Tryd.func14
  have h7 := F14_eq
  have hall := all14
  generalize Tryd.prog = P at *
  generalize Tryd.f14 = fn at *
  refine func_all (fn := fn) (body := bodyOf fn) (ls := ls14) hT hC h1 h6 h2 h3 h4 h5 F14 h7 fun p hp Ls hLs => ?_
  rw [hall] at hp
  cases hp
-- spinet/spinetref13 . Reg
abbrev ps13 : List PK := [.val (.int .i64)]
abbrev rs13 : List RK := [.val .str]
def F13 : (argT ps13).D → Option (resT rs13 (refT ps13)).D
  | (x0, _) =>
  br (ilt x0 0) (some ([], PUnit.unit))
    (br (ilt 11 x0) (some ([], PUnit.unit))
      (chk (inb x0 12)
        (some (rd Ty.str [[68], [88], [89], [85], [83], [80, 67], [], [], [65], [66], [67, 67], [68, 80]] (Int.ofNat (tn x0)), PUnit.unit))))
def con13 : Con := ⟨13, ps13, rs13, F13, 0⟩
def cons13 : List Con := []
def ls13 : Nat → Option (LoopS (resT rs13 (refT ps13)).D) := (fun id => none)
theorem F13_eq (x) : F13 x = evalF T cons13 Tryd.f13 ps13 rs13 ls13 x := by
  obtain ⟨x0, u⟩ := x
  kernel_rfl
theorem all13 : allLoops (bodyOf Tryd.f13) = [] := by kernel_rfl
theorem ok13 : ConOk Tryd.prog con13 := by
  have h1 : Tryd.prog.follows .mixedOrders = true := by kernel_rfl
  have h2 : Tryd.f13.body = some (bodyOf Tryd.f13) := by kernel_rfl
  have h3 : (Tryd.f13.name == "runtime.NumGoroutine") = false := by kernel_rfl
  have h4 : Tryd.f13.results.toList.length = List.length rs13 := by kernel_rfl
  have h5 : Nat.ble (List.length ps13) Tryd.f13.ntmps = true := by kernel_rfl
  have hT : TabOk Tryd.prog T := tab_ok tab
  have hC : ∀ c ∈ cons13, ConOk Tryd.prog c := fun c hc => by cases hc
  have h6 := Tryd.func13
  have h7 := F13_eq
  have hall := all13
  generalize Tryd.prog = P at *
  generalize Tryd.f13 = fn at *
  refine func_all (fn := fn) (body := bodyOf fn) (ls := ls13) hT hC h1 h6 h2 h3 h4 h5 F13 h7 fun p hp Ls hLs => ?_
  rw [hall] at hp
  cases hp
-- spinet/spinetlaw17 . text
abbrev ps6 : List PK := [.val (.int .u8), .val .bool]
abbrev rs6 : List RK := [.val .str]
def inn6_0 : List LK := [.dat 0 (.int .u8), .dat 1 .bool, .dat 5 .str, .dat 6 (.int .u8), .dat 7 (.int .i64)]
def out6_0 : List LK := [.dat 5 .str]
def L6_0 : Nat → (liveT inn6_0).D → Option (LR (resT rs6 (refT ps6)).D (liveT out6_0).D)
  | 0, _ => none
  | k + 1, (x0, x1, x5, x6, x7, _) =>
  br (ilt x7 8)
    (chk (bnot (ieq x6 0))
      (chk (bnot (ieq 2 0))
        (br (ieq (irem IntKind.u8 (iquo IntKind.u8 x0 x6) 2) 1)
          (br (bnot (seq x5 []))
            (chk (fits x5 [44])
              (obnd (F14 (x7, x1, PUnit.unit)) fun y =>
                obnd (F13 (y.1, PUnit.unit)) fun y_1 =>
                  chk (fits (app x5 [44]) y_1.1) ((L6_0 k) (x0, x1, app (app x5 [44]) y_1.1, imul IntKind.u8 x6 2, iadd IntKind.i64 x7 1, PUnit.unit))))
            (obnd (F14 (x7, x1, PUnit.unit)) fun y =>
              obnd (F13 (y.1, PUnit.unit)) fun y_1 =>
                chk (fits x5 y_1.1) ((L6_0 k) (x0, x1, app x5 y_1.1, imul IntKind.u8 x6 2, iadd IntKind.i64 x7 1, PUnit.unit))))
          ((L6_0 k) (x0, x1, x5, imul IntKind.u8 x6 2, iadd IntKind.i64 x7 1, PUnit.unit)))))
    (some (LR.out (x5, PUnit.unit)))
def R6_0 : (liveT inn6_0).D → Option (LR (resT rs6 (refT ps6)).D (liveT out6_0).D) := L6_0 fuel
def F6 : (argT ps6).D → Option (resT rs6 (refT ps6)).D
  | (x0, x1, _) =>
  obnd (R6_0 (x0, x1, [], 1, 0, PUnit.unit)) fun r => lcase r some fun b => some (b.1, PUnit.unit)
def con6 : Con := ⟨6, ps6, rs6, F6, 0⟩
def cons6 : List Con := [con13, con14]
def ls6 : Nat → Option (LoopS (resT rs6 (refT ps6)).D) := (fun id => match Nat.beq id 0 with | true => some { inn := inn6_0, out := out6_0, run := R6_0 } | false => none)
theorem L6_0_eq (k : Nat) (x) : L6_0 (k + 1) x = evalL T cons6 Tryd.f6 ps6 rs6 ls6 0 (loopIn (bodyOf Tryd.f6) 0) inn6_0 out6_0 (L6_0 k) x := by
  obtain ⟨x0, x1, x5, x6, x7, u⟩ := x
  kernel_rfl
theorem F6_eq (x) : F6 x = evalF T cons6 Tryd.f6 ps6 rs6 ls6 x := by
  obtain ⟨x0, x1, u⟩ := x
  kernel_rfl
theorem all6 : allLoops (bodyOf Tryd.f6) = [(0, loopIn (bodyOf Tryd.f6) 0)] := by kernel_rfl
theorem ok6 : ConOk Tryd.prog con6 := by
  have h1 : Tryd.prog.follows .mixedOrders = true := by kernel_rfl
  have h2 : Tryd.f6.body = some (bodyOf Tryd.f6) := by kernel_rfl
  have h3 : (Tryd.f6.name == "runtime.NumGoroutine") = false := by kernel_rfl
  have h4 : Tryd.f6.results.toList.length = List.length rs6 := by kernel_rfl
  have h5 : Nat.ble (List.length ps6) Tryd.f6.ntmps = true := by kernel_rfl
  have hT : TabOk Tryd.prog T := tab_ok tab
  have hC : ∀ c ∈ cons6, ConOk Tryd.prog c := by
    intro c hc
    simp only [cons6, List.mem_cons, List.not_mem_nil, or_false] at hc
    rcases hc with rfl | rfl
    · exact ok13
    · exact ok14
  have h6 := Tryd.func6
  have h7 := F6_eq
  have hall := all6
  have h8_0 := L6_0_eq
  generalize Tryd.prog = P at *
  generalize Tryd.f6 = fn at *
  refine func_all (fn := fn) (body := bodyOf fn) (ls := ls6) hT hC h1 h6 h2 h3 h4 h5 F6 h7 fun p hp Ls hLs => ?_
  rw [hall] at hp
  simp only [List.mem_cons, List.not_mem_nil, or_false] at hp
  rcases hp with rfl
  · cases hLs
    exact ⟨L6_0, fun _ => rfl, h8_0, fun x r h => ⟨fuel, h⟩⟩
-- spinet/lists . Order
abbrev ps15 : List PK := [.val (.int .u8), .val (.int .i64)]
abbrev rs15 : List RK := [.own y1 true]
def inn15_0 : List LK := [.dat 0 (.int .u8), .dat 9 (.arr 8 (.int .i64)), .dat 10 (.int .i64), .own 5 y1 true true]
def out15_0 : List LK := [.own 5 y1 true true]
def L15_0 : Nat → (liveT inn15_0).D → Option (LR (resT rs15 (refT ps15)).D (liveT out15_0).D)
  | 0, _ => none
  | k + 1, (x0, x9, x10, x5, _) =>
  br (ilt x10 8)
    (chk (inb x10 8)
      (chk (ile 0 x10)
        (br (ieq (iand IntKind.u8 (ishr IntKind.u8 x0 x10) 1) 0) ((L15_0 k) (x0, x9, iadd IntKind.i64 x10 1, x5, PUnit.unit))
          (br (ilt 3 x10)
            (chk (fits x5 [(rd (Ty.int IntKind.i64) x9 x10, true, PUnit.unit)])
              (chk (fits (app x5 [(rd (Ty.int IntKind.i64) x9 x10, true, PUnit.unit)]) [(rd (Ty.int IntKind.i64) x9 x10, false, PUnit.unit)])
                ((L15_0 k)
                  (x0, x9, iadd IntKind.i64 x10 1,
                    app (app x5 [(rd (Ty.int IntKind.i64) x9 x10, true, PUnit.unit)]) [(rd (Ty.int IntKind.i64) x9 x10, false, PUnit.unit)],
                    PUnit.unit))))
            (chk (fits x5 [(rd (Ty.int IntKind.i64) x9 x10, false, PUnit.unit)])
              ((L15_0 k) (x0, x9, iadd IntKind.i64 x10 1, app x5 [(rd (Ty.int IntKind.i64) x9 x10, false, PUnit.unit)], PUnit.unit)))))))
    (some (LR.out (x5, PUnit.unit)))
def R15_0 : (liveT inn15_0).D → Option (LR (resT rs15 (refT ps15)).D (liveT out15_0).D) := L15_0 fuel
def F15 : (argT ps15).D → Option (resT rs15 (refT ps15)).D
  | (x0, x1, _) =>
  obnd (F8 (x1, PUnit.unit)) fun y => obnd (R15_0 (x0, y.1, 0, [], PUnit.unit)) fun r => lcase r some fun b => some (b.1, PUnit.unit)
def con15 : Con := ⟨15, ps15, rs15, F15, 0⟩
def cons15 : List Con := [con8]
def ls15 : Nat → Option (LoopS (resT rs15 (refT ps15)).D) := (fun id => match Nat.beq id 0 with | true => some { inn := inn15_0, out := out15_0, run := R15_0 } | false => none)
theorem L15_0_eq (k : Nat) (x) : L15_0 (k + 1) x = evalL T cons15 Tryd.f15 ps15 rs15 ls15 0 (loopIn (bodyOf Tryd.f15) 0) inn15_0 out15_0 (L15_0 k) x := by
  obtain ⟨x0, x9, x10, x5, u⟩ := x
  kernel_rfl
theorem F15_eq (x) : F15 x = evalF T cons15 Tryd.f15 ps15 rs15 ls15 x := by
  obtain ⟨x0, x1, u⟩ := x
  kernel_rfl
theorem all15 : allLoops (bodyOf Tryd.f15) = [(0, loopIn (bodyOf Tryd.f15) 0)] := by kernel_rfl
theorem ok15 : ConOk Tryd.prog con15 := by
  have h1 : Tryd.prog.follows .mixedOrders = true := by kernel_rfl
  have h2 : Tryd.f15.body = some (bodyOf Tryd.f15) := by kernel_rfl
  have h3 : (Tryd.f15.name == "runtime.NumGoroutine") = false := by kernel_rfl
  have h4 : Tryd.f15.results.toList.length = List.length rs15 := by kernel_rfl
  have h5 : Nat.ble (List.length ps15) Tryd.f15.ntmps = true := by kernel_rfl
  have hT : TabOk Tryd.prog T := tab_ok tab
  have hC : ∀ c ∈ cons15, ConOk Tryd.prog c := by
    intro c hc
    simp only [cons15, List.mem_cons, List.not_mem_nil, or_false] at hc
    rcases hc with rfl
    · exact ok8
  have h6 := Tryd.func15
  have h7 := F15_eq
  have hall := all15
  have h8_0 := L15_0_eq
  generalize Tryd.prog = P at *
  generalize Tryd.f15 = fn at *
  refine func_all (fn := fn) (body := bodyOf fn) (ls := ls15) hT hC h1 h6 h2 h3 h4 h5 F15 h7 fun p hp Ls hLs => ?_
  rw [hall] at hp
  simp only [List.mem_cons, List.not_mem_nil, or_false] at hp
  rcases hp with rfl
  · cases hLs
    exact ⟨L15_0, fun _ => rfl, h8_0, fun x r h => ⟨fuel, h⟩⟩
-- spinet/spinetlaw17 . alive
abbrev ps7 : List PK := []
abbrev rs7 : List RK := [.val .bool]
def F7 : (argT ps7).D → Option (resT rs7 (refT ps7)).D
  | _ =>
  obnd (F15 (129, 4, PUnit.unit)) fun y =>
    obnd (F5 ([68, 44, 88], 4, PUnit.unit)) fun y_1 =>
      br (ieq (len y.1) 3)
        (chk (inb 0 (len y.1))
          (br (ieq (rd y1 y.1 (Int.ofNat (tn 0))).1 10)
            (chk (inb 1 (len y.1))
              (br (rd y1 y.1 (Int.ofNat (tn 1))).2.1 (br (ieq y_1.1 22) (some (ieq y_1.2.1 0, PUnit.unit)) (some (false, PUnit.unit)))
                (some (false, PUnit.unit))))
            (some (false, PUnit.unit))))
        (some (false, PUnit.unit))
def con7 : Con := ⟨7, ps7, rs7, F7, 0⟩
def cons7 : List Con := [con5, con15]
def ls7 : Nat → Option (LoopS (resT rs7 (refT ps7)).D) := (fun id => none)
theorem F7_eq (x) : F7 x = evalF T cons7 Tryd.f7 ps7 rs7 ls7 x := by
  kernel_rfl
theorem all7 : allLoops (bodyOf Tryd.f7) = [] := by kernel_rfl
theorem ok7 : ConOk Tryd.prog con7 := by
  have h1 : Tryd.prog.follows .mixedOrders = true := by kernel_rfl
  have h2 : Tryd.f7.body = some (bodyOf Tryd.f7) := by kernel_rfl
  have h3 : (Tryd.f7.name == "runtime.NumGoroutine") = false := by kernel_rfl
  have h4 : Tryd.f7.results.toList.length = List.length rs7 := by kernel_rfl
  have h5 : Nat.ble (List.length ps7) Tryd.f7.ntmps = true := by kernel_rfl
  have hT : TabOk Tryd.prog T := tab_ok tab
  have hC : ∀ c ∈ cons7, ConOk Tryd.prog c := by
    intro c hc
    simp only [cons7, List.mem_cons, List.not_mem_nil, or_false] at hc
    rcases hc with rfl | rfl
    · exact ok5
    · exact ok15
  have h6 := Tryd.func7
  have h7 := F7_eq
  have hall := all7
  generalize Tryd.prog = P at *
  generalize Tryd.f7 = fn at *
  refine func_all (fn := fn) (body := bodyOf fn) (ls := ls7) hT hC h1 h6 h2 h3 h4 h5 F7 h7 fun p hp Ls hLs => ?_
  rw [hall] at hp
  cases hp
-- spinet/spinetlaw17 . ListsTexts
abbrev ps3 : List PK := [.val (.int .u8), .val (.int .i64)]
abbrev rs3 : List RK := [.val .bool]
def F3 : (argT ps3).D → Option (resT rs3 (refT ps3)).D
  | (x0, x1, _) =>
  obnd (F4 (x0, x1, PUnit.unit)) fun y =>
    obnd (F5 (y.1, x1, PUnit.unit)) fun y_1 =>
      obnd (F6 (x0, ieq x1 3, PUnit.unit)) fun y_2 =>
        br (seq y.1 y_2.1)
          (br (ieq y_1.1 x0) (br (ieq y_1.2.1 0) (obnd (F7 PUnit.unit) fun y_3 => some (y_3.1, PUnit.unit)) (some (false, PUnit.unit)))
            (some (false, PUnit.unit)))
          (some (false, PUnit.unit))
def con3 : Con := ⟨3, ps3, rs3, F3, 0⟩
def cons3 : List Con := [con4, con5, con6, con7]
def ls3 : Nat → Option (LoopS (resT rs3 (refT ps3)).D) := (fun id => none)
theorem F3_eq (x) : F3 x = evalF T cons3 Tryd.f3 ps3 rs3 ls3 x := by
  obtain ⟨x0, x1, u⟩ := x
  kernel_rfl
theorem all3 : allLoops (bodyOf Tryd.f3) = [] := by kernel_rfl
theorem ok3 : ConOk Tryd.prog con3 := by
  have h1 : Tryd.prog.follows .mixedOrders = true := by kernel_rfl
  have h2 : Tryd.f3.body = some (bodyOf Tryd.f3) := by kernel_rfl
  have h3 : (Tryd.f3.name == "runtime.NumGoroutine") = false := by kernel_rfl
  have h4 : Tryd.f3.results.toList.length = List.length rs3 := by kernel_rfl
  have h5 : Nat.ble (List.length ps3) Tryd.f3.ntmps = true := by kernel_rfl
  have hT : TabOk Tryd.prog T := tab_ok tab
  have hC : ∀ c ∈ cons3, ConOk Tryd.prog c := by
    intro c hc
    simp only [cons3, List.mem_cons, List.not_mem_nil, or_false] at hc
    rcases hc with rfl | rfl | rfl | rfl
    · exact ok4
    · exact ok5
    · exact ok6
    · exact ok7
  have h6 := Tryd.func3
  have h7 := F3_eq
  have hall := all3
  generalize Tryd.prog = P at *
  generalize Tryd.f3 = fn at *
  refine func_all (fn := fn) (body := bodyOf fn) (ls := ls3) hT hC h1 h6 h2 h3 h4 h5 F3 h7 fun p hp Ls hLs => ?_
  rw [hall] at hp
  cases hp
end W
end Go.SX
