/- Go functions as Lean functions: what the typed evaluator makes of their code; and that they do what these say. Printed by a program of this work. -/
import Derived.Test.YtmblgpbcclpgjaaDoorSxA
set_option maxRecDepth 1000000
set_option linter.unusedVariables false
namespace Go.SX
open Go.Proofs
namespace W
-- spinet/spinetlaw50 . on
abbrev ps25 : List PK := [.val y3, .val (.int .i64)]
abbrev rs25 : List RK := [.val .bool]
def F25 : (argT ps25).D → Option (resT rs25 (refT ps25)).D
  | (x0, x1, _) =>
  br (ile 0 x1)
    (br (ilt x1 7)
      (chk (inb x1 7)
        (some
          (rd Ty.bool [x0.2.2.1, x0.2.2.2.1, x0.2.2.2.2.1, x0.2.2.2.2.2.1, x0.2.2.2.2.2.2.1, x0.2.2.2.2.2.2.2.1, x0.2.2.2.2.2.2.2.2.1]
              (Int.ofNat (tn x1)),
            PUnit.unit)))
      (some (false, PUnit.unit)))
    (some (false, PUnit.unit))
def con25 : Con := ⟨25, ps25, rs25, F25, 0⟩
def cons25 : List Con := []
def ls25 : Nat → Option (LoopS (resT rs25 (refT ps25)).D) := (fun id => none)
theorem F25_eq (x) : F25 x = evalF T cons25 Tryd.f25 ps25 rs25 ls25 x := by
  obtain ⟨x0, x1, u⟩ := x
  kernel_rfl
theorem all25 : allLoops (bodyOf Tryd.f25) = [] := by kernel_rfl
theorem ok25 : ConOk Tryd.prog con25 := by
  have h1 : Tryd.prog.follows .mixedOrders = true := by kernel_rfl
  have h2 : Tryd.f25.body = some (bodyOf Tryd.f25) := by kernel_rfl
  have h3 : (Tryd.f25.name == "runtime.NumGoroutine") = false := by kernel_rfl
  have h4 : Tryd.f25.results.toList.length = List.length rs25 := by kernel_rfl
  have h5 : Nat.ble (List.length ps25) Tryd.f25.ntmps = true := by kernel_rfl
  have hT : TabOk Tryd.prog T := tab_ok tab
  have hC : ∀ c ∈ cons25, ConOk Tryd.prog c := fun c hc => by cases hc
  have h6 := Tryd.func25
  have h7 := F25_eq
  have hall := all25
  generalize Tryd.prog = P at *
  generalize Tryd.f25 = fn at *
  refine func_all (fn := fn) (body := bodyOf fn) (ls := ls25) hT hC h1 h6 h2 h3 h4 h5 F25 h7 fun p hp Ls hLs => ?_
  rw [hall] at hp
  cases hp
-- spinet/wave . Rises
abbrev ps27 : List PK := [.val (.int .i64), .val (.slice y3)]
abbrev rs27 : List RK := [.val (.int .i64)]
def F27 : (argT ps27).D → Option (resT rs27 (refT ps27)).D
  | (x0, x1, _) =>
  obnd (F26 (x0, x1, PUnit.unit)) fun y => chk (fits [95] y.1) (obnd (F45 (app [95] y.1, [95, 35], PUnit.unit)) fun y_1 => some (y_1.1, PUnit.unit))
def con27 : Con := ⟨27, ps27, rs27, F27, 0⟩
def cons27 : List Con := [con26, con45]
def ls27 : Nat → Option (LoopS (resT rs27 (refT ps27)).D) := (fun id => none)
theorem F27_eq (x) : F27 x = evalF T cons27 Tryd.f27 ps27 rs27 ls27 x := by
  obtain ⟨x0, x1, u⟩ := x
  kernel_rfl
theorem all27 : allLoops (bodyOf Tryd.f27) = [] := by kernel_rfl
theorem ok27 : ConOk Tryd.prog con27 := by
  have h1 : Tryd.prog.follows .mixedOrders = true := by kernel_rfl
  have h2 : Tryd.f27.body = some (bodyOf Tryd.f27) := by kernel_rfl
  have h3 : (Tryd.f27.name == "runtime.NumGoroutine") = false := by kernel_rfl
  have h4 : Tryd.f27.results.toList.length = List.length rs27 := by kernel_rfl
  have h5 : Nat.ble (List.length ps27) Tryd.f27.ntmps = true := by kernel_rfl
  have hT : TabOk Tryd.prog T := tab_ok tab
  have hC : ∀ c ∈ cons27, ConOk Tryd.prog c := by
    intro c hc
    simp only [cons27, List.mem_cons, List.not_mem_nil, or_false] at hc
    rcases hc with rfl | rfl
    · exact ok26
    · exact ok45
  have h6 := Tryd.func27
  have h7 := F27_eq
  have hall := all27
  generalize Tryd.prog = P at *
  generalize Tryd.f27 = fn at *
  refine func_all (fn := fn) (body := bodyOf fn) (ls := ls27) hT hC h1 h6 h2 h3 h4 h5 F27 h7 fun p hp Ls hLs => ?_
  rw [hall] at hp
  cases hp
-- spinet/wave . High
abbrev ps28 : List PK := [.val (.int .i64), .val (.slice y3)]
abbrev rs28 : List RK := [.val (.int .i64)]
def F28 : (argT ps28).D → Option (resT rs28 (refT ps28)).D
  | (x0, x1, _) =>
  obnd (F26 (x0, x1, PUnit.unit)) fun y => obnd (F45 (y.1, [35], PUnit.unit)) fun y_1 => some (y_1.1, PUnit.unit)
def con28 : Con := ⟨28, ps28, rs28, F28, 0⟩
def cons28 : List Con := [con26, con45]
def ls28 : Nat → Option (LoopS (resT rs28 (refT ps28)).D) := (fun id => none)
theorem F28_eq (x) : F28 x = evalF T cons28 Tryd.f28 ps28 rs28 ls28 x := by
  obtain ⟨x0, x1, u⟩ := x
  kernel_rfl
theorem all28 : allLoops (bodyOf Tryd.f28) = [] := by kernel_rfl
theorem ok28 : ConOk Tryd.prog con28 := by
  have h1 : Tryd.prog.follows .mixedOrders = true := by kernel_rfl
  have h2 : Tryd.f28.body = some (bodyOf Tryd.f28) := by kernel_rfl
  have h3 : (Tryd.f28.name == "runtime.NumGoroutine") = false := by kernel_rfl
  have h4 : Tryd.f28.results.toList.length = List.length rs28 := by kernel_rfl
  have h5 : Nat.ble (List.length ps28) Tryd.f28.ntmps = true := by kernel_rfl
  have hT : TabOk Tryd.prog T := tab_ok tab
  have hC : ∀ c ∈ cons28, ConOk Tryd.prog c := by
    intro c hc
    simp only [cons28, List.mem_cons, List.not_mem_nil, or_false] at hc
    rcases hc with rfl | rfl
    · exact ok26
    · exact ok45
  have h6 := Tryd.func28
  have h7 := F28_eq
  have hall := all28
  generalize Tryd.prog = P at *
  generalize Tryd.f28 = fn at *
  refine func_all (fn := fn) (body := bodyOf fn) (ls := ls28) hT hC h1 h6 h2 h3 h4 h5 F28 h7 fun p hp Ls hLs => ?_
  rw [hall] at hp
  cases hp
-- slices . Equal[[]spinet/api . Rec,spinet/api . Rec]
abbrev ps29 : List PK := [.val (.slice y3), .val (.slice y3)]
abbrev rs29 : List RK := [.val .bool]
def inn29_0 : List LK := [.dat 0 (.slice y3), .dat 1 (.slice y3), .dat 12 (.int .i64), .dat 13 (.int .i64)]
def out29_0 : List LK := []
def L29_0 : Nat → (liveT inn29_0).D → Option (LR (resT rs29 (refT ps29)).D (liveT out29_0).D)
  | 0, _ => none
  | k + 1, (x0, x1, x12, x13, _) =>
  br (ilt x13 x12)
    (chk (inb x13 (len x0))
      (chk (inb x13 (len x1))
        (br (bnot (eqD y3 (rd y3 x0 x13) (rd y3 x1 x13))) (some (LR.ret (false, PUnit.unit))) ((L29_0 k) (x0, x1, x12, iadd IntKind.i64 x13 1, PUnit.unit)))))
    (some (LR.out PUnit.unit))
def R29_0 : (liveT inn29_0).D → Option (LR (resT rs29 (refT ps29)).D (liveT out29_0).D) := L29_0 fuel
def F29 : (argT ps29).D → Option (resT rs29 (refT ps29)).D
  | (x0, x1, _) =>
  br (bnot (ieq (len x0) (len x1))) (some (false, PUnit.unit))
    (obnd (R29_0 (x0, x1, len x0, 0, PUnit.unit)) fun r => lcase r some fun b => some (true, PUnit.unit))
def con29 : Con := ⟨29, ps29, rs29, F29, 0⟩
def cons29 : List Con := []
def ls29 : Nat → Option (LoopS (resT rs29 (refT ps29)).D) := (fun id => match Nat.beq id 0 with | true => some { inn := inn29_0, out := out29_0, run := R29_0 } | false => none)
theorem L29_0_eq (k : Nat) (x) : L29_0 (k + 1) x = evalL T cons29 Tryd.f29 ps29 rs29 ls29 0 (loopIn (bodyOf Tryd.f29) 0) inn29_0 out29_0 (L29_0 k) x := by
  obtain ⟨x0, x1, x12, x13, u⟩ := x
  kernel_rfl
theorem F29_eq (x) : F29 x = evalF T cons29 Tryd.f29 ps29 rs29 ls29 x := by
  obtain ⟨x0, x1, u⟩ := x
  kernel_rfl
theorem all29 : allLoops (bodyOf Tryd.f29) = [(0, loopIn (bodyOf Tryd.f29) 0)] := by kernel_rfl
theorem ok29 : ConOk Tryd.prog con29 := by
  have h1 : Tryd.prog.follows .mixedOrders = true := by kernel_rfl
  have h2 : Tryd.f29.body = some (bodyOf Tryd.f29) := by kernel_rfl
  have h3 : (Tryd.f29.name == "runtime.NumGoroutine") = false := by kernel_rfl
  have h4 : Tryd.f29.results.toList.length = List.length rs29 := by kernel_rfl
  have h5 : Nat.ble (List.length ps29) Tryd.f29.ntmps = true := by kernel_rfl
  have hT : TabOk Tryd.prog T := tab_ok tab
  have hC : ∀ c ∈ cons29, ConOk Tryd.prog c := fun c hc => by cases hc
  have h6 := Tryd.func29
  have h7 := F29_eq
  have hall := all29
  have h8_0 := L29_0_eq
  generalize Tryd.prog = P at *
  generalize Tryd.f29 = fn at *
  refine func_all (fn := fn) (body := bodyOf fn) (ls := ls29) hT hC h1 h6 h2 h3 h4 h5 F29 h7 fun p hp Ls hLs => ?_
  rw [hall] at hp
  simp only [List.mem_cons, List.not_mem_nil, or_false] at hp
  rcases hp with rfl
  · cases hLs
    exact ⟨L29_0, fun _ => rfl, h8_0, fun x r h => ⟨fuel, h⟩⟩
-- spinet/spinetlaw50 . WaveDraws
abbrev ps6 : List PK := [.val (.slice y3), .val (.int .i64)]
abbrev rs6 : List RK := [.val .bool]
def inn6_2 : List LK := [.dat 0 (.slice y3), .dat 1 (.int .i64), .dat 6 .str, .dat 8 (.int .i64), .dat 9 .str, .dat 10 (.int .i64), .own 7 y3 true true, .obj 5 (.arr 7 .str)]
def out6_2 : List LK := [.dat 0 (.slice y3), .dat 1 (.int .i64), .dat 6 .str, .dat 8 (.int .i64), .dat 9 .str, .own 7 y3 true true, .obj 5 (.arr 7 .str)]
def inn6_0 : List LK := [.dat 0 (.slice y3), .dat 1 (.int .i64), .dat 6 .str, .dat 8 (.int .i64), .own 7 y3 true true, .obj 5 (.arr 7 .str)]
def out6_0 : List LK := [.dat 0 (.slice y3), .dat 1 (.int .i64), .dat 6 .str, .own 7 y3 true true]
def inn6_4 : List LK := [.dat 0 (.slice y3), .dat 1 (.int .i64), .dat 6 .str, .dat 11 (.int .i64), .dat 12 (.int .i64), .dat 13 (.int .i64), .own 7 y3 true true]
def out6_4 : List LK := [.dat 0 (.slice y3), .dat 1 (.int .i64), .dat 6 .str, .dat 11 (.int .i64), .dat 12 (.int .i64), .own 7 y3 true true]
def L6_2 : Nat → (liveT inn6_2).D → Option (LR (resT rs6 (refT ps6)).D (liveT out6_2).D)
  | 0, _ => none
  | k + 1, (x0, x1, x6, x8, x9, x10, x7, x5, _) =>
  br (ilt x10 (len x0))
    (chk (inb x10 (len x0))
      (obnd (F25 (rd y3 x0 x10, x8, PUnit.unit)) fun y =>
        br y.1 (chk (fits x9 [35]) ((L6_2 k) (x0, x1, x6, x8, app x9 [35], iadd IntKind.i64 x10 1, x7, x5, PUnit.unit)))
          (chk (fits x9 [95]) ((L6_2 k) (x0, x1, x6, x8, app x9 [95], iadd IntKind.i64 x10 1, x7, x5, PUnit.unit)))))
    (some (LR.out (x0, x1, x6, x8, x9, x7, x5, PUnit.unit)))
def R6_2 : (liveT inn6_2).D → Option (LR (resT rs6 (refT ps6)).D (liveT out6_2).D) := L6_2 fuel
def L6_0 : Nat → (liveT inn6_0).D → Option (LR (resT rs6 (refT ps6)).D (liveT out6_0).D)
  | 0, _ => none
  | k + 1, (x0, x1, x6, x8, x7, x5, _) =>
  br (ilt x8 7)
    (obnd (R6_2 (x0, x1, x6, x8, [], 0, x7, x5, PUnit.unit)) fun r =>
      lcase r (fun r_1 => some (LR.ret r_1)) fun b =>
        obnd (F26 (b.2.2.2.1, b.1, PUnit.unit)) fun y =>
          br (bnot (seq y.1 b.2.2.2.2.1)) (some (LR.ret (false, PUnit.unit)))
            (chk (inb b.2.2.2.1 7)
              (chk (fits (rd Ty.str b.2.2.2.2.2.2.1 (Int.ofNat (tn b.2.2.2.1))) b.2.2.2.2.1)
                (chk (fits (app (rd Ty.str b.2.2.2.2.2.2.1 (Int.ofNat (tn b.2.2.2.1))) b.2.2.2.2.1) [10])
                  (chk (fits b.2.2.1 (app (app (rd Ty.str b.2.2.2.2.2.2.1 (Int.ofNat (tn b.2.2.2.1))) b.2.2.2.2.1) [10]))
                    ((L6_0 k)
                      (b.1, b.2.1, app b.2.2.1 (app (app (rd Ty.str b.2.2.2.2.2.2.1 (Int.ofNat (tn b.2.2.2.1))) b.2.2.2.2.1) [10]),
                        iadd IntKind.i64 b.2.2.2.1 1, b.2.2.2.2.2.1, b.2.2.2.2.2.2.1, PUnit.unit)))))))
    (some (LR.out (x0, x1, x6, x7, PUnit.unit)))
def R6_0 : (liveT inn6_0).D → Option (LR (resT rs6 (refT ps6)).D (liveT out6_0).D) := L6_0 fuel
def L6_4 : Nat → (liveT inn6_4).D → Option (LR (resT rs6 (refT ps6)).D (liveT out6_4).D)
  | 0, _ => none
  | k + 1, (x0, x1, x6, x11, x12, x13, x7, _) =>
  br (ilt x13 (len x0))
    (chk (inb x13 (len x0))
      (chk (fits x7 [(0, 0, (rd y3 x0 x13).2.2)])
        (chk (inb x13 (len x0))
          (obnd (F25 (rd y3 x0 x13, x1, PUnit.unit)) fun y =>
            br y.1
              (br (ieq x13 0)
                ((L6_4 k)
                  (x0, x1, x6, iadd IntKind.i64 x11 1, iadd IntKind.i64 x12 1, iadd IntKind.i64 x13 1, app x7 [(0, 0, (rd y3 x0 x13).2.2)],
                    PUnit.unit))
                (chk (inb (isub IntKind.i64 x13 1) (len x0))
                  (obnd (F25 (rd y3 x0 (isub IntKind.i64 x13 1), x1, PUnit.unit)) fun y_1 =>
                    br (bnot y_1.1)
                      ((L6_4 k)
                        (x0, x1, x6, iadd IntKind.i64 x11 1, iadd IntKind.i64 x12 1, iadd IntKind.i64 x13 1, app x7 [(0, 0, (rd y3 x0 x13).2.2)],
                          PUnit.unit))
                      ((L6_4 k) (x0, x1, x6, x11, iadd IntKind.i64 x12 1, iadd IntKind.i64 x13 1, app x7 [(0, 0, (rd y3 x0 x13).2.2)], PUnit.unit)))))
              ((L6_4 k) (x0, x1, x6, x11, x12, iadd IntKind.i64 x13 1, app x7 [(0, 0, (rd y3 x0 x13).2.2)], PUnit.unit))))))
    (some (LR.out (x0, x1, x6, x11, x12, x7, PUnit.unit)))
def R6_4 : (liveT inn6_4).D → Option (LR (resT rs6 (refT ps6)).D (liveT out6_4).D) := L6_4 fuel
def F6 : (argT ps6).D → Option (resT rs6 (refT ps6)).D
  | (x0, x1, _) =>
  br (ilt 200 (len x0)) (some (true, PUnit.unit))
    (obnd
      (R6_0
        (x0, x1, [], 0, [],
          [[82, 69, 65, 68, 32], [66, 65, 32, 32, 32], [66, 83, 32, 32, 32], [76, 73, 67, 32, 32], [65, 86, 77, 65, 32], [66, 85, 83, 89, 32],
            [77, 73, 78, 69, 32]],
          PUnit.unit))
      fun r =>
      lcase r some fun b =>
        obnd (R6_4 (b.1, b.2.1, b.2.2.1, 0, 0, 0, b.2.2.2.1, PUnit.unit)) fun r_1 =>
          lcase r_1 some fun b_1 =>
            br (ilt b_1.2.1 0)
              (obnd (F26 (b_1.2.1, b_1.1, PUnit.unit)) fun y =>
                br (bnot (seq y.1 [])) (some (false, PUnit.unit))
                  (obnd (F14 (b_1.2.2.1, PUnit.unit)) fun y_1 =>
                    obnd (F15 (b_1.1, PUnit.unit)) fun y_2 =>
                      br (seq y_2.1 b_1.2.2.1)
                        (obnd (F27 (b_1.2.1, b_1.1, PUnit.unit)) fun y_3 =>
                          br (ieq y_3.1 b_1.2.2.2.1)
                            (obnd (F28 (b_1.2.1, b_1.1, PUnit.unit)) fun y_4 =>
                              br (ieq y_4.1 b_1.2.2.2.2.1)
                                (obnd (F29 (y_1.1, b_1.2.2.2.2.2.1, PUnit.unit)) fun y_5 =>
                                  br y_5.1 (br (ieq y_1.2.1 0) (obnd (F16 PUnit.unit) fun y_6 => some (y_6.1, PUnit.unit)) (some (false, PUnit.unit)))
                                    (some (false, PUnit.unit)))
                                (some (false, PUnit.unit)))
                            (some (false, PUnit.unit)))
                        (some (false, PUnit.unit))))
              (br (ilt 6 b_1.2.1)
                (obnd (F26 (b_1.2.1, b_1.1, PUnit.unit)) fun y =>
                  br (bnot (seq y.1 [])) (some (false, PUnit.unit))
                    (obnd (F14 (b_1.2.2.1, PUnit.unit)) fun y_1 =>
                      obnd (F15 (b_1.1, PUnit.unit)) fun y_2 =>
                        br (seq y_2.1 b_1.2.2.1)
                          (obnd (F27 (b_1.2.1, b_1.1, PUnit.unit)) fun y_3 =>
                            br (ieq y_3.1 b_1.2.2.2.1)
                              (obnd (F28 (b_1.2.1, b_1.1, PUnit.unit)) fun y_4 =>
                                br (ieq y_4.1 b_1.2.2.2.2.1)
                                  (obnd (F29 (y_1.1, b_1.2.2.2.2.2.1, PUnit.unit)) fun y_5 =>
                                    br y_5.1
                                      (br (ieq y_1.2.1 0) (obnd (F16 PUnit.unit) fun y_6 => some (y_6.1, PUnit.unit)) (some (false, PUnit.unit)))
                                      (some (false, PUnit.unit)))
                                  (some (false, PUnit.unit)))
                              (some (false, PUnit.unit)))
                          (some (false, PUnit.unit))))
                (obnd (F14 (b_1.2.2.1, PUnit.unit)) fun y =>
                  obnd (F15 (b_1.1, PUnit.unit)) fun y_1 =>
                    br (seq y_1.1 b_1.2.2.1)
                      (obnd (F27 (b_1.2.1, b_1.1, PUnit.unit)) fun y_2 =>
                        br (ieq y_2.1 b_1.2.2.2.1)
                          (obnd (F28 (b_1.2.1, b_1.1, PUnit.unit)) fun y_3 =>
                            br (ieq y_3.1 b_1.2.2.2.2.1)
                              (obnd (F29 (y.1, b_1.2.2.2.2.2.1, PUnit.unit)) fun y_4 =>
                                br y_4.1 (br (ieq y.2.1 0) (obnd (F16 PUnit.unit) fun y_5 => some (y_5.1, PUnit.unit)) (some (false, PUnit.unit)))
                                  (some (false, PUnit.unit)))
                              (some (false, PUnit.unit)))
                          (some (false, PUnit.unit)))
                      (some (false, PUnit.unit)))))
def con6 : Con := ⟨6, ps6, rs6, F6, 0⟩
def cons6 : List Con := [con14, con15, con16, con25, con26, con27, con28, con29]
def ls6 : Nat → Option (LoopS (resT rs6 (refT ps6)).D) := (fun id => match Nat.beq id 2 with | true => some { inn := inn6_2, out := out6_2, run := R6_2 } | false => match Nat.beq id 0 with | true => some { inn := inn6_0, out := out6_0, run := R6_0 } | false => match Nat.beq id 4 with | true => some { inn := inn6_4, out := out6_4, run := R6_4 } | false => none)
theorem L6_2_eq (k : Nat) (x) : L6_2 (k + 1) x = evalL T cons6 Tryd.f6 ps6 rs6 ls6 2 (loopIn (bodyOf Tryd.f6) 2) inn6_2 out6_2 (L6_2 k) x := by
  obtain ⟨x0, x1, x6, x8, x9, x10, x7, x5, u⟩ := x
  kernel_rfl
theorem L6_0_eq (k : Nat) (x) : L6_0 (k + 1) x = evalL T cons6 Tryd.f6 ps6 rs6 ls6 0 (loopIn (bodyOf Tryd.f6) 0) inn6_0 out6_0 (L6_0 k) x := by
  obtain ⟨x0, x1, x6, x8, x7, x5, u⟩ := x
  kernel_rfl
theorem L6_4_eq (k : Nat) (x) : L6_4 (k + 1) x = evalL T cons6 Tryd.f6 ps6 rs6 ls6 4 (loopIn (bodyOf Tryd.f6) 4) inn6_4 out6_4 (L6_4 k) x := by
  obtain ⟨x0, x1, x6, x11, x12, x13, x7, u⟩ := x
  kernel_rfl
theorem F6_eq (x) : F6 x = evalF T cons6 Tryd.f6 ps6 rs6 ls6 x := by
  obtain ⟨x0, x1, u⟩ := x
  kernel_rfl
theorem all6 : allLoops (bodyOf Tryd.f6) = [(0, loopIn (bodyOf Tryd.f6) 0), (2, loopIn (bodyOf Tryd.f6) 2), (4, loopIn (bodyOf Tryd.f6) 4)] := by kernel_rfl
theorem ok6 : ConOk Tryd.prog con6 := by
  have h1 : Tryd.prog.follows .mixedOrders = true := by kernel_rfl
  have h2 : Tryd.f6.body = some (bodyOf Tryd.f6) := by kernel_rfl
  have h3 : (Tryd.f6.name == "runtime.NumGoroutine") = false := by kernel_rfl
  have h4 : Tryd.f6.results.toList.length = List.length rs6 := by kernel_rfl
  have h5 : Nat.ble (List.length ps6) Tryd.f6.ntmps = true := by kernel_rfl
  have hT : TabOk Tryd.prog T := tab_ok tab
  have hC : ∀ c ∈ cons6, ConOk Tryd.prog c := by
    intro c hc
    simp only [cons6, List.mem_cons, List.not_mem_nil, or_false] at hc
    rcases hc with rfl | rfl | rfl | rfl | rfl | rfl | rfl | rfl
    · exact ok14
    · exact ok15
    · exact ok16
    · exact ok25
    · exact ok26
    · exact ok27
    · exact ok28
    · exact ok29
  have h6 := Tryd.func6
  have h7 := F6_eq
  have hall := all6
  have h8_2 := L6_2_eq
  have h8_0 := L6_0_eq
  have h8_4 := L6_4_eq
  generalize Tryd.prog = P at *
  generalize Tryd.f6 = fn at *
  refine func_all (fn := fn) (body := bodyOf fn) (ls := ls6) hT hC h1 h6 h2 h3 h4 h5 F6 h7 fun p hp Ls hLs => ?_
  rw [hall] at hp
  simp only [List.mem_cons, List.not_mem_nil, or_false] at hp
  rcases hp with rfl | rfl | rfl
  · cases hLs
    exact ⟨L6_0, fun _ => rfl, h8_0, fun x r h => ⟨fuel, h⟩⟩
  · cases hLs
    exact ⟨L6_2, fun _ => rfl, h8_2, fun x r h => ⟨fuel, h⟩⟩
  · cases hLs
    exact ⟨L6_4, fun _ => rfl, h8_4, fun x r h => ⟨fuel, h⟩⟩
end W
end Go.SX
