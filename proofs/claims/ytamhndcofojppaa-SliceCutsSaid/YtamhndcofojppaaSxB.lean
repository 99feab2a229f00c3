/- Go functions as Lean functions: what the typed evaluator makes of their code; and that they do what these say. Printed by a program of this work. -/
import Derived.Test.YtamhndcofojppaaSxA
set_option maxRecDepth 1000000
set_option linter.unusedVariables false
namespace Go.SX
open Go.Proofs
namespace W
-- (spinet/slice . Part) . Start
abbrev ps20 : List PK := [.val y5]
abbrev rs20 : List RK := [.val (.int .u16), .val .bool]
def inn20_0 : List LK := [.dat 7 (.slice y3), .dat 8 (.int .i64), .dat 9 (.int .i64)]
def out20_0 : List LK := []
def L20_0 : Nat → (liveT inn20_0).D → Option (LR (resT rs20 (refT ps20)).D (liveT out20_0).D)
  | 0, _ => none
  | k + 1, (x7, x8, x9, _) =>
  br (ilt x9 x8)
    (chk (inb x9 (len x7))
      (br (rd y3 x7 x9).2.2.2.2.2.2.2.2.1 (some (LR.ret ((rd y3 x7 x9).1, true, PUnit.unit))) ((L20_0 k) (x7, x8, iadd IntKind.i64 x9 1, PUnit.unit))))
    (some (LR.out PUnit.unit))
def R20_0 : (liveT inn20_0).D → Option (LR (resT rs20 (refT ps20)).D (liveT out20_0).D) := L20_0 fuel
def F20 : (argT ps20).D → Option (resT rs20 (refT ps20)).D
  | (x0, _) =>
  obnd (R20_0 (x0.1, len x0.1, 0, PUnit.unit)) fun r => lcase r some fun b => some (0, false, PUnit.unit)
def con20 : Con := ⟨20, ps20, rs20, F20, 0⟩
def cons20 : List Con := []
def ls20 : Nat → Option (LoopS (resT rs20 (refT ps20)).D) := (fun id => match Nat.beq id 0 with | true => some { inn := inn20_0, out := out20_0, run := R20_0 } | false => none)
theorem L20_0_eq (k : Nat) (x) : L20_0 (k + 1) x = evalL T cons20 Try.f20 ps20 rs20 ls20 0 (loopIn (bodyOf Try.f20) 0) inn20_0 out20_0 (L20_0 k) x := by
  obtain ⟨x7, x8, x9, u⟩ := x
  kernel_rfl
theorem F20_eq (x) : F20 x = evalF T cons20 Try.f20 ps20 rs20 ls20 x := by
  obtain ⟨x0, u⟩ := x
  kernel_rfl
theorem all20 : allLoops (bodyOf Try.f20) = [(0, loopIn (bodyOf Try.f20) 0)] := by kernel_rfl
theorem ok20 : ConOk Try.prog con20 := by
  have h1 : Try.prog.follows .mixedOrders = true := by kernel_rfl
  have h2 : Try.f20.body = some (bodyOf Try.f20) := by kernel_rfl
  have h3 : (Try.f20.name == "runtime.NumGoroutine") = false := by kernel_rfl
  have h4 : Try.f20.results.toList.length = List.length rs20 := by kernel_rfl
  have h5 : Nat.ble (List.length ps20) Try.f20.ntmps = true := by kernel_rfl
  have hT : TabOk Try.prog T := tab_ok tab
  have hC : ∀ c ∈ cons20, ConOk Try.prog c := fun c hc => by cases hc
  have h6 := Try.func20
  have h7 := F20_eq
  have hall := all20
  have h8_0 := L20_0_eq
  generalize Try.prog = P at *
  generalize Try.f20 = fn at *
  refine func_all (fn := fn) (body := bodyOf fn) (ls := ls20) hT hC h1 h6 h2 h3 h4 h5 F20 h7 fun p hp Ls hLs => ?_
  rw [hall] at hp
  simp only [List.mem_cons, List.not_mem_nil, or_false] at hp
  rcases hp with rfl
  · cases hLs
    exact ⟨L20_0, fun _ => rfl, h8_0, fun x r h => ⟨fuel, h⟩⟩
-- (spinet/slice . Part) . Vector
abbrev ps21 : List PK := [.val y5]
abbrev rs21 : List RK := [.val (.int .u16), .val .bool]
def inn21_0 : List LK := [.dat 7 (.slice y3), .dat 8 (.int .i64), .dat 9 (.int .i64)]
def out21_0 : List LK := []
def L21_0 : Nat → (liveT inn21_0).D → Option (LR (resT rs21 (refT ps21)).D (liveT out21_0).D)
  | 0, _ => none
  | k + 1, (x7, x8, x9, _) =>
  br (ilt x9 x8)
    (chk (inb x9 (len x7))
      (br (rd y3 x7 x9).2.2.2.2.2.2.2.2.1
        (br (rd y3 x7 x9).2.2.2.2.1
          (br (bnot (rd y3 x7 x9).2.2.2.1) (some (LR.ret ((rd y3 x7 x9).1, true, PUnit.unit))) ((L21_0 k) (x7, x8, iadd IntKind.i64 x9 1, PUnit.unit)))
          ((L21_0 k) (x7, x8, iadd IntKind.i64 x9 1, PUnit.unit)))
        ((L21_0 k) (x7, x8, iadd IntKind.i64 x9 1, PUnit.unit))))
    (some (LR.out PUnit.unit))
def R21_0 : (liveT inn21_0).D → Option (LR (resT rs21 (refT ps21)).D (liveT out21_0).D) := L21_0 fuel
def F21 : (argT ps21).D → Option (resT rs21 (refT ps21)).D
  | (x0, _) =>
  obnd (R21_0 (x0.1, len x0.1, 0, PUnit.unit)) fun r => lcase r some fun b => some (0, false, PUnit.unit)
def con21 : Con := ⟨21, ps21, rs21, F21, 0⟩
def cons21 : List Con := []
def ls21 : Nat → Option (LoopS (resT rs21 (refT ps21)).D) := (fun id => match Nat.beq id 0 with | true => some { inn := inn21_0, out := out21_0, run := R21_0 } | false => none)
theorem L21_0_eq (k : Nat) (x) : L21_0 (k + 1) x = evalL T cons21 Try.f21 ps21 rs21 ls21 0 (loopIn (bodyOf Try.f21) 0) inn21_0 out21_0 (L21_0 k) x := by
  obtain ⟨x7, x8, x9, u⟩ := x
  kernel_rfl
theorem F21_eq (x) : F21 x = evalF T cons21 Try.f21 ps21 rs21 ls21 x := by
  obtain ⟨x0, u⟩ := x
  kernel_rfl
theorem all21 : allLoops (bodyOf Try.f21) = [(0, loopIn (bodyOf Try.f21) 0)] := by kernel_rfl
theorem ok21 : ConOk Try.prog con21 := by
  have h1 : Try.prog.follows .mixedOrders = true := by kernel_rfl
  have h2 : Try.f21.body = some (bodyOf Try.f21) := by kernel_rfl
  have h3 : (Try.f21.name == "runtime.NumGoroutine") = false := by kernel_rfl
  have h4 : Try.f21.results.toList.length = List.length rs21 := by kernel_rfl
  have h5 : Nat.ble (List.length ps21) Try.f21.ntmps = true := by kernel_rfl
  have hT : TabOk Try.prog T := tab_ok tab
  have hC : ∀ c ∈ cons21, ConOk Try.prog c := fun c hc => by cases hc
  have h6 := Try.func21
  have h7 := F21_eq
  have hall := all21
  have h8_0 := L21_0_eq
  generalize Try.prog = P at *
  generalize Try.f21 = fn at *
  refine func_all (fn := fn) (body := bodyOf fn) (ls := ls21) hT hC h1 h6 h2 h3 h4 h5 F21 h7 fun p hp Ls hLs => ?_
  rw [hall] at hp
  simp only [List.mem_cons, List.not_mem_nil, or_false] at hp
  rcases hp with rfl
  · cases hLs
    exact ⟨L21_0, fun _ => rfl, h8_0, fun x r h => ⟨fuel, h⟩⟩
-- (spinet/slice . Part) . Own
abbrev ps23 : List PK := [.val y5]
abbrev rs23 : List RK := [.val (.int .i64)]
def inn23_0 : List LK := [.dat 3 (.int .i64), .dat 7 (.slice y3), .dat 8 (.int .i64), .dat 9 (.int .i64)]
def out23_0 : List LK := [.dat 3 (.int .i64)]
def L23_0 : Nat → (liveT inn23_0).D → Option (LR (resT rs23 (refT ps23)).D (liveT out23_0).D)
  | 0, _ => none
  | k + 1, (x3, x7, x8, x9, _) =>
  br (ilt x9 x8)
    (chk (inb x9 (len x7))
      (br (rd y3 x7 x9).2.2.2.2.2.2.2.2.1 ((L23_0 k) (iadd IntKind.i64 x3 1, x7, x8, iadd IntKind.i64 x9 1, PUnit.unit))
        ((L23_0 k) (x3, x7, x8, iadd IntKind.i64 x9 1, PUnit.unit))))
    (some (LR.out (x3, PUnit.unit)))
def R23_0 : (liveT inn23_0).D → Option (LR (resT rs23 (refT ps23)).D (liveT out23_0).D) := L23_0 fuel
def F23 : (argT ps23).D → Option (resT rs23 (refT ps23)).D
  | (x0, _) =>
  obnd (R23_0 (0, x0.1, len x0.1, 0, PUnit.unit)) fun r => lcase r some fun b => some (b.1, PUnit.unit)
def con23 : Con := ⟨23, ps23, rs23, F23, 0⟩
def cons23 : List Con := []
def ls23 : Nat → Option (LoopS (resT rs23 (refT ps23)).D) := (fun id => match Nat.beq id 0 with | true => some { inn := inn23_0, out := out23_0, run := R23_0 } | false => none)
theorem L23_0_eq (k : Nat) (x) : L23_0 (k + 1) x = evalL T cons23 Try.f23 ps23 rs23 ls23 0 (loopIn (bodyOf Try.f23) 0) inn23_0 out23_0 (L23_0 k) x := by
  obtain ⟨x3, x7, x8, x9, u⟩ := x
  kernel_rfl
theorem F23_eq (x) : F23 x = evalF T cons23 Try.f23 ps23 rs23 ls23 x := by
  obtain ⟨x0, u⟩ := x
  kernel_rfl
theorem all23 : allLoops (bodyOf Try.f23) = [(0, loopIn (bodyOf Try.f23) 0)] := by kernel_rfl
theorem ok23 : ConOk Try.prog con23 := by
  have h1 : Try.prog.follows .mixedOrders = true := by kernel_rfl
  have h2 : Try.f23.body = some (bodyOf Try.f23) := by kernel_rfl
  have h3 : (Try.f23.name == "runtime.NumGoroutine") = false := by kernel_rfl
  have h4 : Try.f23.results.toList.length = List.length rs23 := by kernel_rfl
  have h5 : Nat.ble (List.length ps23) Try.f23.ntmps = true := by kernel_rfl
  have hT : TabOk Try.prog T := tab_ok tab
  have hC : ∀ c ∈ cons23, ConOk Try.prog c := fun c hc => by cases hc
  have h6 := Try.func23
  have h7 := F23_eq
  have hall := all23
  have h8_0 := L23_0_eq
  generalize Try.prog = P at *
  generalize Try.f23 = fn at *
  refine func_all (fn := fn) (body := bodyOf fn) (ls := ls23) hT hC h1 h6 h2 h3 h4 h5 F23 h7 fun p hp Ls hLs => ?_
  rw [hall] at hp
  simp only [List.mem_cons, List.not_mem_nil, or_false] at hp
  rcases hp with rfl
  · cases hLs
    exact ⟨L23_0, fun _ => rfl, h8_0, fun x r h => ⟨fuel, h⟩⟩
-- (spinet/slice . Part) . Lost
abbrev ps24 : List PK := [.val y5]
abbrev rs24 : List RK := [.val (.int .i64)]
def F24 : (argT ps24).D → Option (resT rs24 (refT ps24)).D
  | (x0, _) =>
  obnd (F23 (x0, PUnit.unit)) fun y => some (isub IntKind.i64 (len x0.1) y.1, PUnit.unit)
def con24 : Con := ⟨24, ps24, rs24, F24, 0⟩
def cons24 : List Con := [con23]
def ls24 : Nat → Option (LoopS (resT rs24 (refT ps24)).D) := (fun id => none)
theorem F24_eq (x) : F24 x = evalF T cons24 Try.f24 ps24 rs24 ls24 x := by
  obtain ⟨x0, u⟩ := x
  kernel_rfl
theorem all24 : allLoops (bodyOf Try.f24) = [] := by kernel_rfl
theorem ok24 : ConOk Try.prog con24 := by
  have h1 : Try.prog.follows .mixedOrders = true := by kernel_rfl
  have h2 : Try.f24.body = some (bodyOf Try.f24) := by kernel_rfl
  have h3 : (Try.f24.name == "runtime.NumGoroutine") = false := by kernel_rfl
  have h4 : Try.f24.results.toList.length = List.length rs24 := by kernel_rfl
  have h5 : Nat.ble (List.length ps24) Try.f24.ntmps = true := by kernel_rfl
  have hT : TabOk Try.prog T := tab_ok tab
  have hC : ∀ c ∈ cons24, ConOk Try.prog c := by
    intro c hc
    simp only [cons24, List.mem_cons, List.not_mem_nil, or_false] at hc
    rcases hc with rfl
    · exact ok23
  have h6 := Try.func24
  have h7 := F24_eq
  have hall := all24
  generalize Try.prog = P at *
  generalize Try.f24 = fn at *
  refine func_all (fn := fn) (body := bodyOf fn) (ls := ls24) hT hC h1 h6 h2 h3 h4 h5 F24 h7 fun p hp Ls hLs => ?_
  rw [hall] at hp
  cases hp
-- (spinet/slice . Part) . Writes
abbrev ps25 : List PK := [.val y5]
abbrev rs25 : List RK := [.own y3 true]
def inn25_0 : List LK := [.dat 7 (.slice y3), .dat 8 (.int .i64), .dat 9 (.int .i64), .own 3 y3 true true]
def out25_0 : List LK := [.own 3 y3 true true]
def L25_0 : Nat → (liveT inn25_0).D → Option (LR (resT rs25 (refT ps25)).D (liveT out25_0).D)
  | 0, _ => none
  | k + 1, (x7, x8, x9, x3, _) =>
  br (ilt x9 x8)
    (chk (inb x9 (len x7))
      (br (rd y3 x7 x9).2.2.2.2.2.2.2.2.1
        (br (bnot (rd y3 x7 x9).2.2.1) (chk (fits x3 [rd y3 x7 x9]) ((L25_0 k) (x7, x8, iadd IntKind.i64 x9 1, app x3 [rd y3 x7 x9], PUnit.unit)))
          ((L25_0 k) (x7, x8, iadd IntKind.i64 x9 1, x3, PUnit.unit)))
        ((L25_0 k) (x7, x8, iadd IntKind.i64 x9 1, x3, PUnit.unit))))
    (some (LR.out (x3, PUnit.unit)))
def R25_0 : (liveT inn25_0).D → Option (LR (resT rs25 (refT ps25)).D (liveT out25_0).D) := L25_0 fuel
def F25 : (argT ps25).D → Option (resT rs25 (refT ps25)).D
  | (x0, _) =>
  obnd (R25_0 (x0.1, len x0.1, 0, [], PUnit.unit)) fun r => lcase r some fun b => some (b.1, PUnit.unit)
def con25 : Con := ⟨25, ps25, rs25, F25, 0⟩
def cons25 : List Con := []
def ls25 : Nat → Option (LoopS (resT rs25 (refT ps25)).D) := (fun id => match Nat.beq id 0 with | true => some { inn := inn25_0, out := out25_0, run := R25_0 } | false => none)
theorem L25_0_eq (k : Nat) (x) : L25_0 (k + 1) x = evalL T cons25 Try.f25 ps25 rs25 ls25 0 (loopIn (bodyOf Try.f25) 0) inn25_0 out25_0 (L25_0 k) x := by
  obtain ⟨x7, x8, x9, x3, u⟩ := x
  kernel_rfl
theorem F25_eq (x) : F25 x = evalF T cons25 Try.f25 ps25 rs25 ls25 x := by
  obtain ⟨x0, u⟩ := x
  kernel_rfl
theorem all25 : allLoops (bodyOf Try.f25) = [(0, loopIn (bodyOf Try.f25) 0)] := by kernel_rfl
theorem ok25 : ConOk Try.prog con25 := by
  have h1 : Try.prog.follows .mixedOrders = true := by kernel_rfl
  have h2 : Try.f25.body = some (bodyOf Try.f25) := by kernel_rfl
  have h3 : (Try.f25.name == "runtime.NumGoroutine") = false := by kernel_rfl
  have h4 : Try.f25.results.toList.length = List.length rs25 := by kernel_rfl
  have h5 : Nat.ble (List.length ps25) Try.f25.ntmps = true := by kernel_rfl
  have hT : TabOk Try.prog T := tab_ok tab
  have hC : ∀ c ∈ cons25, ConOk Try.prog c := fun c hc => by cases hc
  have h6 := Try.func25
  have h7 := F25_eq
  have hall := all25
  have h8_0 := L25_0_eq
  generalize Try.prog = P at *
  generalize Try.f25 = fn at *
  refine func_all (fn := fn) (body := bodyOf fn) (ls := ls25) hT hC h1 h6 h2 h3 h4 h5 F25 h7 fun p hp Ls hLs => ?_
  rw [hall] at hp
  simp only [List.mem_cons, List.not_mem_nil, or_false] at hp
  rcases hp with rfl
  · cases hLs
    exact ⟨L25_0, fun _ => rfl, h8_0, fun x r h => ⟨fuel, h⟩⟩
-- (spinet/slice . Part) . Text
abbrev ps26 : List PK := [.val y5]
abbrev rs26 : List RK := [.val .str]
def F26 : (argT ps26).D → Option (resT rs26 (refT ps26)).D
  | (x0, _) =>
  obnd (F22 (x0.1, PUnit.unit)) fun y => br x0.2.1 (chk (fits y.1 [45, 10]) (some (app y.1 [45, 10], PUnit.unit))) (some (y.1, PUnit.unit))
def con26 : Con := ⟨26, ps26, rs26, F26, 0⟩
def cons26 : List Con := [con22]
def ls26 : Nat → Option (LoopS (resT rs26 (refT ps26)).D) := (fun id => none)
theorem F26_eq (x) : F26 x = evalF T cons26 Try.f26 ps26 rs26 ls26 x := by
  obtain ⟨x0, u⟩ := x
  kernel_rfl
theorem all26 : allLoops (bodyOf Try.f26) = [] := by kernel_rfl
theorem ok26 : ConOk Try.prog con26 := by
  have h1 : Try.prog.follows .mixedOrders = true := by kernel_rfl
  have h2 : Try.f26.body = some (bodyOf Try.f26) := by kernel_rfl
  have h3 : (Try.f26.name == "runtime.NumGoroutine") = false := by kernel_rfl
  have h4 : Try.f26.results.toList.length = List.length rs26 := by kernel_rfl
  have h5 : Nat.ble (List.length ps26) Try.f26.ntmps = true := by kernel_rfl
  have hT : TabOk Try.prog T := tab_ok tab
  have hC : ∀ c ∈ cons26, ConOk Try.prog c := by
    intro c hc
    simp only [cons26, List.mem_cons, List.not_mem_nil, or_false] at hc
    rcases hc with rfl
    · exact ok22
  have h6 := Try.func26
  have h7 := F26_eq
  have hall := all26
  generalize Try.prog = P at *
  generalize Try.f26 = fn at *
  refine func_all (fn := fn) (body := bodyOf fn) (ls := ls26) hT hC h1 h6 h2 h3 h4 h5 F26 h7 fun p hp Ls hLs => ?_
  rw [hall] at hp
  cases hp
-- slices . Equal[[]spinet/api . Rec,spinet/api . Rec]
abbrev ps13 : List PK := [.val (.slice y3), .val (.slice y3)]
abbrev rs13 : List RK := [.val .bool]
def inn13_0 : List LK := [.dat 0 (.slice y3), .dat 1 (.slice y3), .dat 12 (.int .i64), .dat 13 (.int .i64)]
def out13_0 : List LK := []
def L13_0 : Nat → (liveT inn13_0).D → Option (LR (resT rs13 (refT ps13)).D (liveT out13_0).D)
  | 0, _ => none
  | k + 1, (x0, x1, x12, x13, _) =>
  br (ilt x13 x12)
    (chk (inb x13 (len x0))
      (chk (inb x13 (len x1))
        (br (bnot (eqD y3 (rd y3 x0 x13) (rd y3 x1 x13))) (some (LR.ret (false, PUnit.unit))) ((L13_0 k) (x0, x1, x12, iadd IntKind.i64 x13 1, PUnit.unit)))))
    (some (LR.out PUnit.unit))
def R13_0 : (liveT inn13_0).D → Option (LR (resT rs13 (refT ps13)).D (liveT out13_0).D) := L13_0 fuel
def F13 : (argT ps13).D → Option (resT rs13 (refT ps13)).D
  | (x0, x1, _) =>
  br (bnot (ieq (len x0) (len x1))) (some (false, PUnit.unit))
    (obnd (R13_0 (x0, x1, len x0, 0, PUnit.unit)) fun r => lcase r some fun b => some (true, PUnit.unit))
def con13 : Con := ⟨13, ps13, rs13, F13, 0⟩
def cons13 : List Con := []
def ls13 : Nat → Option (LoopS (resT rs13 (refT ps13)).D) := (fun id => match Nat.beq id 0 with | true => some { inn := inn13_0, out := out13_0, run := R13_0 } | false => none)
theorem L13_0_eq (k : Nat) (x) : L13_0 (k + 1) x = evalL T cons13 Try.f13 ps13 rs13 ls13 0 (loopIn (bodyOf Try.f13) 0) inn13_0 out13_0 (L13_0 k) x := by
  obtain ⟨x0, x1, x12, x13, u⟩ := x
  kernel_rfl
theorem F13_eq (x) : F13 x = evalF T cons13 Try.f13 ps13 rs13 ls13 x := by
  obtain ⟨x0, x1, u⟩ := x
  kernel_rfl
theorem all13 : allLoops (bodyOf Try.f13) = [(0, loopIn (bodyOf Try.f13) 0)] := by kernel_rfl
theorem ok13 : ConOk Try.prog con13 := by
  have h1 : Try.prog.follows .mixedOrders = true := by kernel_rfl
  have h2 : Try.f13.body = some (bodyOf Try.f13) := by kernel_rfl
  have h3 : (Try.f13.name == "runtime.NumGoroutine") = false := by kernel_rfl
  have h4 : Try.f13.results.toList.length = List.length rs13 := by kernel_rfl
  have h5 : Nat.ble (List.length ps13) Try.f13.ntmps = true := by kernel_rfl
  have hT : TabOk Try.prog T := tab_ok tab
  have hC : ∀ c ∈ cons13, ConOk Try.prog c := fun c hc => by cases hc
  have h6 := Try.func13
  have h7 := F13_eq
  have hall := all13
  have h8_0 := L13_0_eq
  generalize Try.prog = P at *
  generalize Try.f13 = fn at *
  refine func_all (fn := fn) (body := bodyOf fn) (ls := ls13) hT hC h1 h6 h2 h3 h4 h5 F13 h7 fun p hp Ls hLs => ?_
  rw [hall] at hp
  simp only [List.mem_cons, List.not_mem_nil, or_false] at hp
  rcases hp with rfl
  · cases hLs
    exact ⟨L13_0, fun _ => rfl, h8_0, fun x r h => ⟨fuel, h⟩⟩
-- spinet/slice . Cut
abbrev ps11 : List PK := [.val (.slice y3)]
abbrev rs11 : List RK := [.own y5 true]
def inn11_0 : List LK := [.dat 7 (.slice y3), .dat 8 (.int .i64), .dat 9 (.int .i64), .own 3 y5 true true, .own 4 y3 true true]
def out11_0 : List LK := [.own 3 y5 true true, .own 4 y3 true true]
def L11_0 : Nat → (liveT inn11_0).D → Option (LR (resT rs11 (refT ps11)).D (liveT out11_0).D)
  | 0, _ => none
  | k + 1, (x7, x8, x9, x3, x4, _) =>
  br (ilt x9 x8)
    (chk (inb x9 (len x7))
      (chk (fits x4 [rd y3 x7 x9])
        (br (rd y3 x7 x9).2.2.2.2.2.2.2.2.1
          (br (rd y3 x7 x9).2.2.2.2.2.1
            (chk (fits x3 [(app x4 [rd y3 x7 x9], true, PUnit.unit)])
              ((L11_0 k) (x7, x8, iadd IntKind.i64 x9 1, app x3 [(app x4 [rd y3 x7 x9], true, PUnit.unit)], [], PUnit.unit)))
            ((L11_0 k) (x7, x8, iadd IntKind.i64 x9 1, x3, app x4 [rd y3 x7 x9], PUnit.unit)))
          ((L11_0 k) (x7, x8, iadd IntKind.i64 x9 1, x3, app x4 [rd y3 x7 x9], PUnit.unit)))))
    (some (LR.out (x3, x4, PUnit.unit)))
def R11_0 : (liveT inn11_0).D → Option (LR (resT rs11 (refT ps11)).D (liveT out11_0).D) := L11_0 fuel
def F11 : (argT ps11).D → Option (resT rs11 (refT ps11)).D
  | (x0, _) =>
  obnd (R11_0 (x0, len x0, 0, [], [], PUnit.unit)) fun r =>
    lcase r some fun b =>
      br (ilt 0 (len b.2.1)) (chk (fits b.1 [(b.2.1, false, PUnit.unit)]) (some (app b.1 [(b.2.1, false, PUnit.unit)], PUnit.unit)))
        (some (b.1, PUnit.unit))
def con11 : Con := ⟨11, ps11, rs11, F11, 0⟩
def cons11 : List Con := []
def ls11 : Nat → Option (LoopS (resT rs11 (refT ps11)).D) := (fun id => match Nat.beq id 0 with | true => some { inn := inn11_0, out := out11_0, run := R11_0 } | false => none)
theorem L11_0_eq (k : Nat) (x) : L11_0 (k + 1) x = evalL T cons11 Try.f11 ps11 rs11 ls11 0 (loopIn (bodyOf Try.f11) 0) inn11_0 out11_0 (L11_0 k) x := by
  obtain ⟨x7, x8, x9, x3, x4, u⟩ := x
  kernel_rfl
theorem F11_eq (x) : F11 x = evalF T cons11 Try.f11 ps11 rs11 ls11 x := by
  obtain ⟨x0, u⟩ := x
  kernel_rfl
theorem all11 : allLoops (bodyOf Try.f11) = [(0, loopIn (bodyOf Try.f11) 0)] := by kernel_rfl
theorem ok11 : ConOk Try.prog con11 := by
  have h1 : Try.prog.follows .mixedOrders = true := by kernel_rfl
  have h2 : Try.f11.body = some (bodyOf Try.f11) := by kernel_rfl
  have h3 : (Try.f11.name == "runtime.NumGoroutine") = false := by kernel_rfl
  have h4 : Try.f11.results.toList.length = List.length rs11 := by kernel_rfl
  have h5 : Nat.ble (List.length ps11) Try.f11.ntmps = true := by kernel_rfl
  have hT : TabOk Try.prog T := tab_ok tab
  have hC : ∀ c ∈ cons11, ConOk Try.prog c := fun c hc => by cases hc
  have h6 := Try.func11
  have h7 := F11_eq
  have hall := all11
  have h8_0 := L11_0_eq
  generalize Try.prog = P at *
  generalize Try.f11 = fn at *
  refine func_all (fn := fn) (body := bodyOf fn) (ls := ls11) hT hC h1 h6 h2 h3 h4 h5 F11 h7 fun p hp Ls hLs => ?_
  rw [hall] at hp
  simp only [List.mem_cons, List.not_mem_nil, or_false] at hp
  rcases hp with rfl
  · cases hLs
    exact ⟨L11_0, fun _ => rfl, h8_0, fun x r h => ⟨fuel, h⟩⟩
end W
end Go.SX
