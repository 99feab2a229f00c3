/- Go functions as Lean functions: what the typed evaluator makes of their code; and that they do what these say. Printed by a program of this work. -/
import Derived.Test.YtamhndcofojppaaDoorSxT
import Derived.Test.YtamhndcofojppaaDoorSxLib
set_option maxRecDepth 1000000
set_option linter.unusedVariables false
namespace Go.SX
open Go.Proofs
namespace W
-- spinet/lists . regs
abbrev ps8 : List PK := [.val (.int .i64)]
abbrev rs8 : List RK := [.val (.arr 8 (.int .i64))]
def F8 : (argT ps8).D → Option (resT rs8 (refT ps8)).D
  | (x0, _) =>
  br (ieq x0 3) (chk (inb 6 8) (some (upd [10, 8, 9, 11, 1, 2, 3, 5] (Int.ofNat (tn 6)) 4, PUnit.unit)))
    (some ([10, 8, 9, 11, 1, 2, 3, 5], PUnit.unit))
def con8 : Con := ⟨8, ps8, rs8, F8, 0⟩
def cons8 : List Con := []
def ls8 : Nat → Option (LoopS (resT rs8 (refT ps8)).D) := (fun id => none)
theorem F8_eq (x) : F8 x = evalF T cons8 Tryd.f8 ps8 rs8 ls8 x := by
  obtain ⟨x0, u⟩ := x
  kernel_rfl
theorem all8 : allLoops (bodyOf Tryd.f8) = [] := by kernel_rfl
theorem ok8 : ConOk Tryd.prog con8 := by
  have h1 : Tryd.prog.follows .mixedOrders = true := by kernel_rfl
  have h2 : Tryd.f8.body = some (bodyOf Tryd.f8) := by kernel_rfl
  have h3 : (Tryd.f8.name == "runtime.NumGoroutine") = false := by kernel_rfl
  have h4 : Tryd.f8.results.toList.length = List.length rs8 := by kernel_rfl
  have h5 : Nat.ble (List.length ps8) Tryd.f8.ntmps = true := by kernel_rfl
  have hT : TabOk Tryd.prog T := tab_ok tab
  have hC : ∀ c ∈ cons8, ConOk Tryd.prog c := fun c hc => by cases hc
  have h6 := Tryd.func8
  have h7 := F8_eq
  have hall := all8
  generalize Tryd.prog = P at *
  generalize Tryd.f8 = fn at *
  refine func_all (fn := fn) (body := bodyOf fn) (ls := ls8) hT hC h1 h6 h2 h3 h4 h5 F8 h7 fun p hp Ls hLs => ?_
  rw [hall] at hp
  cases hp
-- spinet/ops . Reg
abbrev ps9 : List PK := [.val (.int .i64)]
abbrev rs9 : List RK := [.val .str]
def F9 : (argT ps9).D → Option (resT rs9 (refT ps9)).D
  | (x0, _) =>
  br (ieq x0 0) (some ([68], PUnit.unit))
    (br (ieq x0 1) (some ([88], PUnit.unit))
      (br (ieq x0 2) (some ([89], PUnit.unit))
        (br (ieq x0 3) (some ([85], PUnit.unit))
          (br (ieq x0 4) (some ([83], PUnit.unit))
            (br (ieq x0 5) (some ([80, 67], PUnit.unit))
              (br (ieq x0 8) (some ([65], PUnit.unit))
                (br (ieq x0 9) (some ([66], PUnit.unit))
                  (br (ieq x0 10) (some ([67, 67], PUnit.unit)) (br (ieq x0 11) (some ([68, 80], PUnit.unit)) (some ([], PUnit.unit)))))))))))
def con9 : Con := ⟨9, ps9, rs9, F9, 0⟩
def cons9 : List Con := []
def ls9 : Nat → Option (LoopS (resT rs9 (refT ps9)).D) := (fun id => none)
theorem F9_eq (x) : F9 x = evalF T cons9 Tryd.f9 ps9 rs9 ls9 x := by
  obtain ⟨x0, u⟩ := x
  kernel_rfl
theorem all9 : allLoops (bodyOf Tryd.f9) = [] := by kernel_rfl
theorem ok9 : ConOk Tryd.prog con9 := by
  have h1 : Tryd.prog.follows .mixedOrders = true := by kernel_rfl
  have h2 : Tryd.f9.body = some (bodyOf Tryd.f9) := by kernel_rfl
  have h3 : (Tryd.f9.name == "runtime.NumGoroutine") = false := by kernel_rfl
  have h4 : Tryd.f9.results.toList.length = List.length rs9 := by kernel_rfl
  have h5 : Nat.ble (List.length ps9) Tryd.f9.ntmps = true := by kernel_rfl
  have hT : TabOk Tryd.prog T := tab_ok tab
  have hC : ∀ c ∈ cons9, ConOk Tryd.prog c := fun c hc => by cases hc
  have h6 := Tryd.func9
  have h7 := F9_eq
  have hall := all9
  generalize Tryd.prog = P at *
  generalize Tryd.f9 = fn at *
  refine func_all (fn := fn) (body := bodyOf fn) (ls := ls9) hT hC h1 h6 h2 h3 h4 h5 F9 h7 fun p hp Ls hLs => ?_
  rw [hall] at hp
  cases hp
-- spinet/lists . Text
abbrev ps4 : List PK := [.val (.int .u8), .val (.int .i64)]
abbrev rs4 : List RK := [.val .str]
def inn4_0 : List LK := [.dat 0 (.int .u8), .dat 9 (.arr 8 (.int .i64)), .dat 10 (.int .i64), .own 5 .str true true]
def out4_0 : List LK := [.own 5 .str true true]
def L4_0 : Nat → (liveT inn4_0).D → Option (LR (resT rs4 (refT ps4)).D (liveT out4_0).D)
  | 0, _ => none
  | k + 1, (x0, x9, x10, x5, _) =>
  br (ilt x10 8)
    (chk (inb x10 8)
      (chk (ile 0 x10)
        (br (ieq (iand IntKind.u8 (ishr IntKind.u8 x0 x10) 1) 1)
          (obnd (F9 (rd (Ty.int IntKind.i64) x9 x10, PUnit.unit)) fun y =>
            chk (fits x5 [y.1]) ((L4_0 k) (x0, x9, iadd IntKind.i64 x10 1, app x5 [y.1], PUnit.unit)))
          ((L4_0 k) (x0, x9, iadd IntKind.i64 x10 1, x5, PUnit.unit)))))
    (some (LR.out (x5, PUnit.unit)))
def R4_0 : (liveT inn4_0).D → Option (LR (resT rs4 (refT ps4)).D (liveT out4_0).D) := L4_0 fuel
def F4 : (argT ps4).D → Option (resT rs4 (refT ps4)).D
  | (x0, x1, _) =>
  obnd (F8 (x1, PUnit.unit)) fun y =>
    obnd (R4_0 (x0, y.1, 0, [], PUnit.unit)) fun r => lcase r some fun b => obnd (F10 (b.1, [44], PUnit.unit)) fun y_1 => some (y_1.1, PUnit.unit)
def con4 : Con := ⟨4, ps4, rs4, F4, 0⟩
def cons4 : List Con := [con8, con9, con10]
def ls4 : Nat → Option (LoopS (resT rs4 (refT ps4)).D) := (fun id => match Nat.beq id 0 with | true => some { inn := inn4_0, out := out4_0, run := R4_0 } | false => none)
theorem L4_0_eq (k : Nat) (x) : L4_0 (k + 1) x = evalL T cons4 Tryd.f4 ps4 rs4 ls4 0 (loopIn (bodyOf Tryd.f4) 0) inn4_0 out4_0 (L4_0 k) x := by
  obtain ⟨x0, x9, x10, x5, u⟩ := x
  kernel_rfl
theorem F4_eq (x) : F4 x = evalF T cons4 Tryd.f4 ps4 rs4 ls4 x := by
  obtain ⟨x0, x1, u⟩ := x
  kernel_rfl
theorem all4 : allLoops (bodyOf Tryd.f4) = [(0, loopIn (bodyOf Tryd.f4) 0)] := by kernel_rfl
theorem ok4 : ConOk Tryd.prog con4 := by
  have h1 : Tryd.prog.follows .mixedOrders = true := by kernel_rfl
  have h2 : Tryd.f4.body = some (bodyOf Tryd.f4) := by kernel_rfl
  have h3 : (Tryd.f4.name == "runtime.NumGoroutine") = false := by kernel_rfl
  have h4 : Tryd.f4.results.toList.length = List.length rs4 := by kernel_rfl
  have h5 : Nat.ble (List.length ps4) Tryd.f4.ntmps = true := by kernel_rfl
  have hT : TabOk Tryd.prog T := tab_ok tab
  have hC : ∀ c ∈ cons4, ConOk Tryd.prog c := by
    intro c hc
    simp only [cons4, List.mem_cons, List.not_mem_nil, or_false] at hc
    rcases hc with rfl | rfl | rfl
    · exact ok8
    · exact ok9
    · exact ok10
  have h6 := Tryd.func4
  have h7 := F4_eq
  have hall := all4
  have h8_0 := L4_0_eq
  generalize Tryd.prog = P at *
  generalize Tryd.f4 = fn at *
  refine func_all (fn := fn) (body := bodyOf fn) (ls := ls4) hT hC h1 h6 h2 h3 h4 h5 F4 h7 fun p hp Ls hLs => ?_
  rw [hall] at hp
  simp only [List.mem_cons, List.not_mem_nil, or_false] at hp
  rcases hp with rfl
  · cases hLs
    exact ⟨L4_0, fun _ => rfl, h8_0, fun x r h => ⟨fuel, h⟩⟩
-- internal/stringslite . IndexByte
abbrev ps32 : List PK := [.val .str, .val (.int .u8)]
abbrev rs32 : List RK := [.val (.int .i64)]
def F32 : (argT ps32).D → Option (resT rs32 (refT ps32)).D
  | (x0, x1, _) =>
  obnd (F36 (x0, x1, PUnit.unit)) fun y => some (y.1, PUnit.unit)
def con32 : Con := ⟨32, ps32, rs32, F32, 0⟩
def cons32 : List Con := [con36]
def ls32 : Nat → Option (LoopS (resT rs32 (refT ps32)).D) := (fun id => none)
theorem F32_eq (x) : F32 x = evalF T cons32 Tryd.f32 ps32 rs32 ls32 x := by
  obtain ⟨x0, x1, u⟩ := x
  kernel_rfl
theorem all32 : allLoops (bodyOf Tryd.f32) = [] := by kernel_rfl
theorem ok32 : ConOk Tryd.prog con32 := by
  have h1 : Tryd.prog.follows .mixedOrders = true := by kernel_rfl
  have h2 : Tryd.f32.body = some (bodyOf Tryd.f32) := by kernel_rfl
  have h3 : (Tryd.f32.name == "runtime.NumGoroutine") = false := by kernel_rfl
  have h4 : Tryd.f32.results.toList.length = List.length rs32 := by kernel_rfl
  have h5 : Nat.ble (List.length ps32) Tryd.f32.ntmps = true := by kernel_rfl
  have hT : TabOk Tryd.prog T := tab_ok tab
  have hC : ∀ c ∈ cons32, ConOk Tryd.prog c := by
    intro c hc
    simp only [cons32, List.mem_cons, List.not_mem_nil, or_false] at hc
    rcases hc with rfl
    · exact ok36
  have h6 := Tryd.func32
  have h7 := F32_eq
  have hall := all32
  generalize Tryd.prog = P at *
  generalize Tryd.f32 = fn at *
  refine func_all (fn := fn) (body := bodyOf fn) (ls := ls32) hT hC h1 h6 h2 h3 h4 h5 F32 h7 fun p hp Ls hLs => ?_
  rw [hall] at hp
  cases hp
-- internal/stringslite . Index
abbrev ps30 : List PK := [.val .str, .val .str]
abbrev rs30 : List RK := [.val (.int .i64)]
def inn30_1 : List LK := [.dat 0 .str, .dat 1 .str, .dat 5 (.int .i64), .dat 6 (.int .u8), .dat 7 (.int .u8), .dat 8 (.int .i64), .dat 9 (.int .i64), .dat 10 (.int .i64)]
def out30_1 : List LK := []
def L30_1 : Nat → (liveT inn30_1).D → Option (LR (resT rs30 (refT ps30)).D (liveT out30_1).D)
  | 0, _ => none
  | k + 1, (x0, x1, x5, x6, x7, x8, x9, x10, _) =>
  br (ilt x8 x9)
    (chk (inb x8 (len x0))
      (br (bnot (ieq (rd (Ty.int IntKind.u8) x0 x8) x6))
        (chk (inp (iadd IntKind.i64 x8 1) x9 (len x0))
          (obnd (F32 (part x0 (iadd IntKind.i64 x8 1) x9, x6, PUnit.unit)) fun y =>
            br (ilt y.1 0) (some (LR.ret (-1, PUnit.unit)))
              (chk (inb (iadd IntKind.i64 (iadd IntKind.i64 x8 (iadd IntKind.i64 y.1 1)) 1) (len x0))
                (br (ieq (rd (Ty.int IntKind.u8) x0 (iadd IntKind.i64 (iadd IntKind.i64 x8 (iadd IntKind.i64 y.1 1)) 1)) x7)
                  (chk
                    (inp (iadd IntKind.i64 x8 (iadd IntKind.i64 y.1 1)) (iadd IntKind.i64 (iadd IntKind.i64 x8 (iadd IntKind.i64 y.1 1)) x5) (len x0))
                    (br
                      (seq
                        (part x0 (iadd IntKind.i64 x8 (iadd IntKind.i64 y.1 1)) (iadd IntKind.i64 (iadd IntKind.i64 x8 (iadd IntKind.i64 y.1 1)) x5))
                        x1)
                      (some (LR.ret (iadd IntKind.i64 x8 (iadd IntKind.i64 y.1 1), PUnit.unit))) none))
                  none))))
        (chk (inb (iadd IntKind.i64 x8 1) (len x0))
          (br (ieq (rd (Ty.int IntKind.u8) x0 (iadd IntKind.i64 x8 1)) x7)
            (chk (inp x8 (iadd IntKind.i64 x8 x5) (len x0)) (br (seq (part x0 x8 (iadd IntKind.i64 x8 x5)) x1) (some (LR.ret (x8, PUnit.unit))) none))
            none))))
    (some (LR.out PUnit.unit))
def R30_1 : (liveT inn30_1).D → Option (LR (resT rs30 (refT ps30)).D (liveT out30_1).D) := L30_1 fuel
def F30 : (argT ps30).D → Option (resT rs30 (refT ps30)).D
  | (x0, x1, _) =>
  br (ieq (len x1) 0) (some (0, PUnit.unit))
    (br (seq x1 x0) (some (0, PUnit.unit))
      (br (ieq (len x1) 1) (chk (inb 0 (len x1)) (obnd (F32 (x0, rd (Ty.int IntKind.u8) x1 0, PUnit.unit)) fun y => some (y.1, PUnit.unit)))
        (br (ile (len x0) (len x1)) (some (-1, PUnit.unit)) none)))
def con30 : Con := ⟨30, ps30, rs30, F30, 0⟩
def cons30 : List Con := [con32]
def ls30 : Nat → Option (LoopS (resT rs30 (refT ps30)).D) := (fun id => match Nat.beq id 1 with | true => some { inn := inn30_1, out := out30_1, run := R30_1 } | false => none)
theorem L30_1_eq (k : Nat) (x) : L30_1 (k + 1) x = evalL T cons30 Tryd.f30 ps30 rs30 ls30 1 (loopIn (bodyOf Tryd.f30) 1) inn30_1 out30_1 (L30_1 k) x := by
  obtain ⟨x0, x1, x5, x6, x7, x8, x9, x10, u⟩ := x
  kernel_rfl
theorem F30_eq (x) : F30 x = evalF T cons30 Tryd.f30 ps30 rs30 ls30 x := by
  obtain ⟨x0, x1, u⟩ := x
  kernel_rfl
theorem all30 : allLoops (bodyOf Tryd.f30) = [(1, loopIn (bodyOf Tryd.f30) 1)] := by kernel_rfl
theorem ok30 : ConOk Tryd.prog con30 := by
  have h1 : Tryd.prog.follows .mixedOrders = true := by kernel_rfl
  have h2 : Tryd.f30.body = some (bodyOf Tryd.f30) := by kernel_rfl
  have h3 : (Tryd.f30.name == "runtime.NumGoroutine") = false := by kernel_rfl
  have h4 : Tryd.f30.results.toList.length = List.length rs30 := by kernel_rfl
  have h5 : Nat.ble (List.length ps30) Tryd.f30.ntmps = true := by kernel_rfl
  have hT : TabOk Tryd.prog T := tab_ok tab
  have hC : ∀ c ∈ cons30, ConOk Tryd.prog c := by
    intro c hc
    simp only [cons30, List.mem_cons, List.not_mem_nil, or_false] at hc
    rcases hc with rfl
    · exact ok32
  have h6 := Tryd.func30
  have h7 := F30_eq
  have hall := all30
  have h8_1 := L30_1_eq
  generalize Tryd.prog = P at *
  generalize Tryd.f30 = fn at *
  refine func_all (fn := fn) (body := bodyOf fn) (ls := ls30) hT hC h1 h6 h2 h3 h4 h5 F30 h7 fun p hp Ls hLs => ?_
  rw [hall] at hp
  simp only [List.mem_cons, List.not_mem_nil, or_false] at hp
  rcases hp with rfl
  · cases hLs
    exact ⟨L30_1, fun _ => rfl, h8_1, fun x r h => ⟨fuel, h⟩⟩
-- strings . Index
abbrev ps24 : List PK := [.val .str, .val .str]
abbrev rs24 : List RK := [.val (.int .i64)]
def F24 : (argT ps24).D → Option (resT rs24 (refT ps24)).D
  | (x0, x1, _) =>
  obnd (F30 (x0, x1, PUnit.unit)) fun y => some (y.1, PUnit.unit)
def con24 : Con := ⟨24, ps24, rs24, F24, 0⟩
def cons24 : List Con := [con30]
def ls24 : Nat → Option (LoopS (resT rs24 (refT ps24)).D) := (fun id => none)
theorem F24_eq (x) : F24 x = evalF T cons24 Tryd.f24 ps24 rs24 ls24 x := by
  obtain ⟨x0, x1, u⟩ := x
  kernel_rfl
theorem all24 : allLoops (bodyOf Tryd.f24) = [] := by kernel_rfl
theorem ok24 : ConOk Tryd.prog con24 := by
  have h1 : Tryd.prog.follows .mixedOrders = true := by kernel_rfl
  have h2 : Tryd.f24.body = some (bodyOf Tryd.f24) := by kernel_rfl
  have h3 : (Tryd.f24.name == "runtime.NumGoroutine") = false := by kernel_rfl
  have h4 : Tryd.f24.results.toList.length = List.length rs24 := by kernel_rfl
  have h5 : Nat.ble (List.length ps24) Tryd.f24.ntmps = true := by kernel_rfl
  have hT : TabOk Tryd.prog T := tab_ok tab
  have hC : ∀ c ∈ cons24, ConOk Tryd.prog c := by
    intro c hc
    simp only [cons24, List.mem_cons, List.not_mem_nil, or_false] at hc
    rcases hc with rfl
    · exact ok30
  have h6 := Tryd.func24
  have h7 := F24_eq
  have hall := all24
  generalize Tryd.prog = P at *
  generalize Tryd.f24 = fn at *
  refine func_all (fn := fn) (body := bodyOf fn) (ls := ls24) hT hC h1 h6 h2 h3 h4 h5 F24 h7 fun p hp Ls hLs => ?_
  rw [hall] at hp
  cases hp
-- strings . Count
abbrev ps23 : List PK := [.val .str, .val .str]
abbrev rs23 : List RK := [.val (.int .i64)]
def inn23_0 : List LK := [.dat 0 .str, .dat 1 .str, .dat 5 (.int .i64)]
def out23_0 : List LK := []
def L23_0 : Nat → (liveT inn23_0).D → Option (LR (resT rs23 (refT ps23)).D (liveT out23_0).D)
  | 0, _ => none
  | k + 1, (x0, x1, x5, _) =>
  obnd (F24 (x0, x1, PUnit.unit)) fun y =>
    br (ieq y.1 (-1)) (some (LR.ret (x5, PUnit.unit)))
      (chk (inp (iadd IntKind.i64 y.1 (len x1)) (len x0) (len x0))
        ((L23_0 k) (part x0 (iadd IntKind.i64 y.1 (len x1)) (len x0), x1, iadd IntKind.i64 x5 1, PUnit.unit)))
def R23_0 : (liveT inn23_0).D → Option (LR (resT rs23 (refT ps23)).D (liveT out23_0).D) := L23_0 fuel
def F23 : (argT ps23).D → Option (resT rs23 (refT ps23)).D
  | (x0, x1, _) =>
  br (ieq (len x1) 0) none
    (br (ieq (len x1) 1) (chk (inb 0 (len x1)) (obnd (F29 (x0, rd (Ty.int IntKind.u8) x1 0, PUnit.unit)) fun y => some (y.1, PUnit.unit)))
      (obnd (R23_0 (x0, x1, 0, PUnit.unit)) fun r => lcase r some fun b => none))
def con23 : Con := ⟨23, ps23, rs23, F23, 0⟩
def cons23 : List Con := [con24, con29]
def ls23 : Nat → Option (LoopS (resT rs23 (refT ps23)).D) := (fun id => match Nat.beq id 0 with | true => some { inn := inn23_0, out := out23_0, run := R23_0 } | false => none)
theorem L23_0_eq (k : Nat) (x) : L23_0 (k + 1) x = evalL T cons23 Tryd.f23 ps23 rs23 ls23 0 (loopIn (bodyOf Tryd.f23) 0) inn23_0 out23_0 (L23_0 k) x := by
  obtain ⟨x0, x1, x5, u⟩ := x
  kernel_rfl
theorem F23_eq (x) : F23 x = evalF T cons23 Tryd.f23 ps23 rs23 ls23 x := by
  obtain ⟨x0, x1, u⟩ := x
  kernel_rfl
theorem all23 : allLoops (bodyOf Tryd.f23) = [(0, loopIn (bodyOf Tryd.f23) 0)] := by kernel_rfl
theorem ok23 : ConOk Tryd.prog con23 := by
  have h1 : Tryd.prog.follows .mixedOrders = true := by kernel_rfl
  have h2 : Tryd.f23.body = some (bodyOf Tryd.f23) := by kernel_rfl
  have h3 : (Tryd.f23.name == "runtime.NumGoroutine") = false := by kernel_rfl
  have h4 : Tryd.f23.results.toList.length = List.length rs23 := by kernel_rfl
  have h5 : Nat.ble (List.length ps23) Tryd.f23.ntmps = true := by kernel_rfl
  have hT : TabOk Tryd.prog T := tab_ok tab
  have hC : ∀ c ∈ cons23, ConOk Tryd.prog c := by
    intro c hc
    simp only [cons23, List.mem_cons, List.not_mem_nil, or_false] at hc
    rcases hc with rfl | rfl
    · exact ok24
    · exact ok29
  have h6 := Tryd.func23
  have h7 := F23_eq
  have hall := all23
  have h8_0 := L23_0_eq
  generalize Tryd.prog = P at *
  generalize Tryd.f23 = fn at *
  refine func_all (fn := fn) (body := bodyOf fn) (ls := ls23) hT hC h1 h6 h2 h3 h4 h5 F23 h7 fun p hp Ls hLs => ?_
  rw [hall] at hp
  simp only [List.mem_cons, List.not_mem_nil, or_false] at hp
  rcases hp with rfl
  · cases hLs
    exact ⟨L23_0, fun _ => rfl, h8_0, fun x r h => ⟨fuel, h⟩⟩
-- strings . genSplit
abbrev ps19 : List PK := [.val .str, .val .str, .val (.int .i64), .val (.int .i64)]
abbrev rs19 : List RK := [.val (.slice .str)]
def inn19_0 : List LK := [.dat 0 .str, .dat 1 .str, .dat 2 (.int .i64), .dat 3 (.int .i64), .dat 10 (.int .i64), .own 9 .str true true]
def out19_0 : List LK := [.dat 0 .str, .dat 10 (.int .i64), .own 9 .str true true]
def L19_0 : Nat → (liveT inn19_0).D → Option (LR (resT rs19 (refT ps19)).D (liveT out19_0).D)
  | 0, _ => none
  | k + 1, (x0, x1, x2, x3, x10, x9, _) =>
  br (ilt x10 x3)
    (obnd (F24 (x0, x1, PUnit.unit)) fun y =>
      br (ilt y.1 0) (some (LR.out (x0, x10, x9, PUnit.unit)))
        (chk (inp 0 (iadd IntKind.i64 y.1 x2) (len x0))
          (chk (inb x10 (len x9))
            (chk (inp (iadd IntKind.i64 y.1 (len x1)) (len x0) (len x0))
              ((L19_0 k)
                (part x0 (iadd IntKind.i64 y.1 (len x1)) (len x0), x1, x2, x3, iadd IntKind.i64 x10 1,
                  upd x9 (Int.ofNat (tn x10)) (part x0 0 (iadd IntKind.i64 y.1 x2)), PUnit.unit))))))
    (some (LR.out (x0, x10, x9, PUnit.unit)))
def R19_0 : (liveT inn19_0).D → Option (LR (resT rs19 (refT ps19)).D (liveT out19_0).D) := L19_0 fuel
def F19 : (argT ps19).D → Option (resT rs19 (refT ps19)).D
  | (x0, x1, x2, x3, _) =>
  br (ieq x3 0) (some ([], PUnit.unit))
    (br (seq x1 []) none
      (br (ilt x3 0)
        (obnd (F23 (x0, x1, PUnit.unit)) fun y =>
          chk
            (inp (imin (iadd IntKind.i64 y.1 1) (iadd IntKind.i64 (len x0) 1)) (imin (iadd IntKind.i64 y.1 1) (iadd IntKind.i64 (len x0) 1))
              1099511627775)
            (chk (ile 0 (imin (iadd IntKind.i64 y.1 1) (iadd IntKind.i64 (len x0) 1)))
              (obnd
                (R19_0
                  (x0, x1, x2, isub IntKind.i64 (imin (iadd IntKind.i64 y.1 1) (iadd IntKind.i64 (len x0) 1)) 1, 0,
                    zeros Ty.str (imin (iadd IntKind.i64 y.1 1) (iadd IntKind.i64 (len x0) 1)), PUnit.unit))
                fun r =>
                lcase r some fun b =>
                  chk (inb b.2.1 (len b.2.2.1))
                    (chk (inp 0 (iadd IntKind.i64 b.2.1 1) (len (upd b.2.2.1 (Int.ofNat (tn b.2.1)) b.1)))
                      (chk (ile (len (upd b.2.2.1 (Int.ofNat (tn b.2.1)) b.1)) (len (upd b.2.2.1 (Int.ofNat (tn b.2.1)) b.1)))
                        (some (part (upd b.2.2.1 (Int.ofNat (tn b.2.1)) b.1) 0 (iadd IntKind.i64 b.2.1 1), PUnit.unit)))))))
        (chk (inp (imin x3 (iadd IntKind.i64 (len x0) 1)) (imin x3 (iadd IntKind.i64 (len x0) 1)) 1099511627775)
          (chk (ile 0 (imin x3 (iadd IntKind.i64 (len x0) 1)))
            (obnd
              (R19_0
                (x0, x1, x2, isub IntKind.i64 (imin x3 (iadd IntKind.i64 (len x0) 1)) 1, 0, zeros Ty.str (imin x3 (iadd IntKind.i64 (len x0) 1)),
                  PUnit.unit))
              fun r =>
              lcase r some fun b =>
                chk (inb b.2.1 (len b.2.2.1))
                  (chk (inp 0 (iadd IntKind.i64 b.2.1 1) (len (upd b.2.2.1 (Int.ofNat (tn b.2.1)) b.1)))
                    (chk (ile (len (upd b.2.2.1 (Int.ofNat (tn b.2.1)) b.1)) (len (upd b.2.2.1 (Int.ofNat (tn b.2.1)) b.1)))
                      (some (part (upd b.2.2.1 (Int.ofNat (tn b.2.1)) b.1) 0 (iadd IntKind.i64 b.2.1 1), PUnit.unit)))))))))
def con19 : Con := ⟨19, ps19, rs19, F19, 0⟩
def cons19 : List Con := [con23, con24]
def ls19 : Nat → Option (LoopS (resT rs19 (refT ps19)).D) := (fun id => match Nat.beq id 0 with | true => some { inn := inn19_0, out := out19_0, run := R19_0 } | false => none)
theorem L19_0_eq (k : Nat) (x) : L19_0 (k + 1) x = evalL T cons19 Tryd.f19 ps19 rs19 ls19 0 (loopIn (bodyOf Tryd.f19) 0) inn19_0 out19_0 (L19_0 k) x := by
  obtain ⟨x0, x1, x2, x3, x10, x9, u⟩ := x
  kernel_rfl
theorem F19_eq (x) : F19 x = evalF T cons19 Tryd.f19 ps19 rs19 ls19 x := by
  obtain ⟨x0, x1, x2, x3, u⟩ := x
  kernel_rfl
theorem all19 : allLoops (bodyOf Tryd.f19) = [(0, loopIn (bodyOf Tryd.f19) 0)] := by kernel_rfl
theorem ok19 : ConOk Tryd.prog con19 := by
  have h1 : Tryd.prog.follows .mixedOrders = true := by kernel_rfl
  have h2 : Tryd.f19.body = some (bodyOf Tryd.f19) := by kernel_rfl
  have h3 : (Tryd.f19.name == "runtime.NumGoroutine") = false := by kernel_rfl
  have h4 : Tryd.f19.results.toList.length = List.length rs19 := by kernel_rfl
  have h5 : Nat.ble (List.length ps19) Tryd.f19.ntmps = true := by kernel_rfl
  have hT : TabOk Tryd.prog T := tab_ok tab
  have hC : ∀ c ∈ cons19, ConOk Tryd.prog c := by
    intro c hc
    simp only [cons19, List.mem_cons, List.not_mem_nil, or_false] at hc
    rcases hc with rfl | rfl
    · exact ok23
    · exact ok24
  have h6 := Tryd.func19
  have h7 := F19_eq
  have hall := all19
  have h8_0 := L19_0_eq
  generalize Tryd.prog = P at *
  generalize Tryd.f19 = fn at *
  refine func_all (fn := fn) (body := bodyOf fn) (ls := ls19) hT hC h1 h6 h2 h3 h4 h5 F19 h7 fun p hp Ls hLs => ?_
  rw [hall] at hp
  simp only [List.mem_cons, List.not_mem_nil, or_false] at hp
  rcases hp with rfl
  · cases hLs
    exact ⟨L19_0, fun _ => rfl, h8_0, fun x r h => ⟨fuel, h⟩⟩
-- strings . Split
abbrev ps11 : List PK := [.val .str, .val .str]
abbrev rs11 : List RK := [.val (.slice .str)]
def F11 : (argT ps11).D → Option (resT rs11 (refT ps11)).D
  | (x0, x1, _) =>
  obnd (F19 (x0, x1, 0, -1, PUnit.unit)) fun y => some (y.1, PUnit.unit)
def con11 : Con := ⟨11, ps11, rs11, F11, 0⟩
def cons11 : List Con := [con19]
def ls11 : Nat → Option (LoopS (resT rs11 (refT ps11)).D) := (fun id => none)
theorem F11_eq (x) : F11 x = evalF T cons11 Tryd.f11 ps11 rs11 ls11 x := by
  obtain ⟨x0, x1, u⟩ := x
  kernel_rfl
theorem all11 : allLoops (bodyOf Tryd.f11) = [] := by kernel_rfl
theorem ok11 : ConOk Tryd.prog con11 := by
  have h1 : Tryd.prog.follows .mixedOrders = true := by kernel_rfl
  have h2 : Tryd.f11.body = some (bodyOf Tryd.f11) := by kernel_rfl
  have h3 : (Tryd.f11.name == "runtime.NumGoroutine") = false := by kernel_rfl
  have h4 : Tryd.f11.results.toList.length = List.length rs11 := by kernel_rfl
  have h5 : Nat.ble (List.length ps11) Tryd.f11.ntmps = true := by kernel_rfl
  have hT : TabOk Tryd.prog T := tab_ok tab
  have hC : ∀ c ∈ cons11, ConOk Tryd.prog c := by
    intro c hc
    simp only [cons11, List.mem_cons, List.not_mem_nil, or_false] at hc
    rcases hc with rfl
    · exact ok19
  have h6 := Tryd.func11
  have h7 := F11_eq
  have hall := all11
  generalize Tryd.prog = P at *
  generalize Tryd.f11 = fn at *
  refine func_all (fn := fn) (body := bodyOf fn) (ls := ls11) hT hC h1 h6 h2 h3 h4 h5 F11 h7 fun p hp Ls hLs => ?_
  rw [hall] at hp
  cases hp
end W
end Go.SX
