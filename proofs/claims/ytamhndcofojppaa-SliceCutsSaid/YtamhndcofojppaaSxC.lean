/- Go functions as Lean functions: what the typed evaluator makes of their code; and that they do what these say. Printed by a program of this work. -/
import Derived.Test.YtamhndcofojppaaSxB
set_option maxRecDepth 1000000
set_option linter.unusedVariables false
namespace Go.SX
open Go.Proofs
namespace W
-- spinet/spinetlaw48 . alive
abbrev ps14 : List PK := []
abbrev rs14 : List RK := [.val .bool]
def F14 : (argT ps14).D → Option (resT rs14 (refT ps14)).D
  | _ =>
  obnd (F11 ([(5, 0, false, false, false, true, false, false, true, PUnit.unit)], PUnit.unit)) fun y =>
    obnd (F11 ([], PUnit.unit)) fun y_1 =>
      br (ieq (len y_1.1) 0)
        (br (ieq (len y.1) 1)
          (chk (inb 0 (len y.1))
            (br (rd y5 y.1 (Int.ofNat (tn 0))).2.1
              (chk (inb 0 (len y.1)) (obnd (F23 (rd y5 y.1 (Int.ofNat (tn 0)), PUnit.unit)) fun y_2 => some (ieq y_2.1 1, PUnit.unit)))
              (some (false, PUnit.unit))))
          (some (false, PUnit.unit)))
        (some (false, PUnit.unit))
def con14 : Con := ⟨14, ps14, rs14, F14, 0⟩
def cons14 : List Con := [con11, con23]
def ls14 : Nat → Option (LoopS (resT rs14 (refT ps14)).D) := (fun id => none)
theorem F14_eq (x) : F14 x = evalF T cons14 Try.f14 ps14 rs14 ls14 x := by
  kernel_rfl
theorem all14 : allLoops (bodyOf Try.f14) = [] := by kernel_rfl
theorem ok14 : ConOk Try.prog con14 := by
  have h1 : Try.prog.follows .mixedOrders = true := by kernel_rfl
  have h2 : Try.f14.body = some (bodyOf Try.f14) := by kernel_rfl
  have h3 : (Try.f14.name == "runtime.NumGoroutine") = false := by kernel_rfl
  have h4 : Try.f14.results.toList.length = List.length rs14 := by kernel_rfl
  have h5 : Nat.ble (List.length ps14) Try.f14.ntmps = true := by kernel_rfl
  have hT : TabOk Try.prog T := tab_ok tab
  have hC : ∀ c ∈ cons14, ConOk Try.prog c := by
    intro c hc
    simp only [cons14, List.mem_cons, List.not_mem_nil, or_false] at hc
    rcases hc with rfl | rfl
    · exact ok11
    · exact ok23
  have h6 := Try.func14
  have h7 := F14_eq
  have hall := all14
  generalize Try.prog = P at *
  generalize Try.f14 = fn at *
  refine func_all (fn := fn) (body := bodyOf fn) (ls := ls14) hT hC h1 h6 h2 h3 h4 h5 F14 h7 fun p hp Ls hLs => ?_
  rw [hall] at hp
  cases hp
-- spinet/spinetlaw48 . told
abbrev ps12 : List PK := [.val y5]
abbrev rs12 : List RK := [.val .bool]
def inn12_0 : List LK := [.dat 3 (.int .i64), .dat 4 (.int .u16), .dat 5 (.int .u16), .dat 6 .bool, .dat 7 .bool, .dat 9 (.int .i64), .own 8 y3 true true, .obj 1 y5]
def out12_0 : List LK := [.dat 3 (.int .i64), .dat 4 (.int .u16), .dat 5 (.int .u16), .dat 6 .bool, .dat 7 .bool, .own 8 y3 true true, .obj 1 y5]
def L12_0 : Nat → (liveT inn12_0).D → Option (LR (resT rs12 (refT ps12)).D (liveT out12_0).D)
  | 0, _ => none
  | k + 1, (x3, x4, x5, x6, x7, x9, x8, x1, _) =>
  br (ilt x9 (len x1.1))
    (chk (inb x9 (len x1.1))
      (br (bnot (rd y3 x1.1 x9).2.2.2.2.2.2.2.2.1) ((L12_0 k) (x3, x4, x5, x6, x7, iadd IntKind.i64 x9 1, x8, x1, PUnit.unit))
        (br (bnot x6)
          (br (rd y3 x1.1 x9).2.2.2.2.1
            (br (bnot (rd y3 x1.1 x9).2.2.2.1)
              (br (bnot x7)
                (br (bnot (rd y3 x1.1 x9).2.2.1)
                  (chk (fits x8 [rd y3 x1.1 x9])
                    ((L12_0 k)
                      (iadd IntKind.i64 x3 1, (rd y3 x1.1 x9).1, (rd y3 x1.1 x9).1, true, true, iadd IntKind.i64 x9 1, app x8 [rd y3 x1.1 x9], x1,
                        PUnit.unit)))
                  ((L12_0 k) (iadd IntKind.i64 x3 1, (rd y3 x1.1 x9).1, (rd y3 x1.1 x9).1, true, true, iadd IntKind.i64 x9 1, x8, x1, PUnit.unit)))
                (br (bnot (rd y3 x1.1 x9).2.2.1)
                  (chk (fits x8 [rd y3 x1.1 x9])
                    ((L12_0 k) (iadd IntKind.i64 x3 1, (rd y3 x1.1 x9).1, x5, true, x7, iadd IntKind.i64 x9 1, app x8 [rd y3 x1.1 x9], x1, PUnit.unit)))
                  ((L12_0 k) (iadd IntKind.i64 x3 1, (rd y3 x1.1 x9).1, x5, true, x7, iadd IntKind.i64 x9 1, x8, x1, PUnit.unit))))
              (br (bnot (rd y3 x1.1 x9).2.2.1)
                (chk (fits x8 [rd y3 x1.1 x9])
                  ((L12_0 k) (iadd IntKind.i64 x3 1, (rd y3 x1.1 x9).1, x5, true, x7, iadd IntKind.i64 x9 1, app x8 [rd y3 x1.1 x9], x1, PUnit.unit)))
                ((L12_0 k) (iadd IntKind.i64 x3 1, (rd y3 x1.1 x9).1, x5, true, x7, iadd IntKind.i64 x9 1, x8, x1, PUnit.unit))))
            (br (bnot (rd y3 x1.1 x9).2.2.1)
              (chk (fits x8 [rd y3 x1.1 x9])
                ((L12_0 k) (iadd IntKind.i64 x3 1, (rd y3 x1.1 x9).1, x5, true, x7, iadd IntKind.i64 x9 1, app x8 [rd y3 x1.1 x9], x1, PUnit.unit)))
              ((L12_0 k) (iadd IntKind.i64 x3 1, (rd y3 x1.1 x9).1, x5, true, x7, iadd IntKind.i64 x9 1, x8, x1, PUnit.unit))))
          (br (rd y3 x1.1 x9).2.2.2.2.1
            (br (bnot (rd y3 x1.1 x9).2.2.2.1)
              (br (bnot x7)
                (br (bnot (rd y3 x1.1 x9).2.2.1)
                  (chk (fits x8 [rd y3 x1.1 x9])
                    ((L12_0 k) (iadd IntKind.i64 x3 1, x4, (rd y3 x1.1 x9).1, x6, true, iadd IntKind.i64 x9 1, app x8 [rd y3 x1.1 x9], x1, PUnit.unit)))
                  ((L12_0 k) (iadd IntKind.i64 x3 1, x4, (rd y3 x1.1 x9).1, x6, true, iadd IntKind.i64 x9 1, x8, x1, PUnit.unit)))
                (br (bnot (rd y3 x1.1 x9).2.2.1)
                  (chk (fits x8 [rd y3 x1.1 x9])
                    ((L12_0 k) (iadd IntKind.i64 x3 1, x4, x5, x6, x7, iadd IntKind.i64 x9 1, app x8 [rd y3 x1.1 x9], x1, PUnit.unit)))
                  ((L12_0 k) (iadd IntKind.i64 x3 1, x4, x5, x6, x7, iadd IntKind.i64 x9 1, x8, x1, PUnit.unit))))
              (br (bnot (rd y3 x1.1 x9).2.2.1)
                (chk (fits x8 [rd y3 x1.1 x9])
                  ((L12_0 k) (iadd IntKind.i64 x3 1, x4, x5, x6, x7, iadd IntKind.i64 x9 1, app x8 [rd y3 x1.1 x9], x1, PUnit.unit)))
                ((L12_0 k) (iadd IntKind.i64 x3 1, x4, x5, x6, x7, iadd IntKind.i64 x9 1, x8, x1, PUnit.unit))))
            (br (bnot (rd y3 x1.1 x9).2.2.1)
              (chk (fits x8 [rd y3 x1.1 x9])
                ((L12_0 k) (iadd IntKind.i64 x3 1, x4, x5, x6, x7, iadd IntKind.i64 x9 1, app x8 [rd y3 x1.1 x9], x1, PUnit.unit)))
              ((L12_0 k) (iadd IntKind.i64 x3 1, x4, x5, x6, x7, iadd IntKind.i64 x9 1, x8, x1, PUnit.unit)))))))
    (some (LR.out (x3, x4, x5, x6, x7, x8, x1, PUnit.unit)))
def R12_0 : (liveT inn12_0).D → Option (LR (resT rs12 (refT ps12)).D (liveT out12_0).D) := L12_0 fuel
def F12 : (argT ps12).D → Option (resT rs12 (refT ps12)).D
  | (x0, _) =>
  obnd (R12_0 (0, 0, 0, false, false, 0, [], x0, PUnit.unit)) fun r =>
    lcase r some fun b =>
      obnd (F20 (b.2.2.2.2.2.2.1, PUnit.unit)) fun y =>
        obnd (F21 (b.2.2.2.2.2.2.1, PUnit.unit)) fun y_1 =>
          obnd (F22 (b.2.2.2.2.2.2.1.1, PUnit.unit)) fun y_2 =>
            br b.2.2.2.2.2.2.1.2.1
              (chk (fits y_2.1 [45, 10])
                (obnd (F23 (b.2.2.2.2.2.2.1, PUnit.unit)) fun y_3 =>
                  br (ieq y_3.1 b.1)
                    (obnd (F24 (b.2.2.2.2.2.2.1, PUnit.unit)) fun y_4 =>
                      br (ieq y_4.1 (isub IntKind.i64 (len b.2.2.2.2.2.2.1.1) b.1))
                        (br (ieq y.1 b.2.1)
                          (br (beqb y.2.1 b.2.2.2.1)
                            (br (ieq y_1.1 b.2.2.1)
                              (br (beqb y_1.2.1 b.2.2.2.2.1)
                                (obnd (F25 (b.2.2.2.2.2.2.1, PUnit.unit)) fun y_5 =>
                                  obnd (F13 (y_5.1, b.2.2.2.2.2.1, PUnit.unit)) fun y_6 =>
                                    br y_6.1 (obnd (F26 (b.2.2.2.2.2.2.1, PUnit.unit)) fun y_7 => some (seq y_7.1 (app y_2.1 [45, 10]), PUnit.unit))
                                      (some (false, PUnit.unit)))
                                (some (false, PUnit.unit)))
                              (some (false, PUnit.unit)))
                            (some (false, PUnit.unit)))
                          (some (false, PUnit.unit)))
                        (some (false, PUnit.unit)))
                    (some (false, PUnit.unit))))
              (obnd (F23 (b.2.2.2.2.2.2.1, PUnit.unit)) fun y_3 =>
                br (ieq y_3.1 b.1)
                  (obnd (F24 (b.2.2.2.2.2.2.1, PUnit.unit)) fun y_4 =>
                    br (ieq y_4.1 (isub IntKind.i64 (len b.2.2.2.2.2.2.1.1) b.1))
                      (br (ieq y.1 b.2.1)
                        (br (beqb y.2.1 b.2.2.2.1)
                          (br (ieq y_1.1 b.2.2.1)
                            (br (beqb y_1.2.1 b.2.2.2.2.1)
                              (obnd (F25 (b.2.2.2.2.2.2.1, PUnit.unit)) fun y_5 =>
                                obnd (F13 (y_5.1, b.2.2.2.2.2.1, PUnit.unit)) fun y_6 =>
                                  br y_6.1 (obnd (F26 (b.2.2.2.2.2.2.1, PUnit.unit)) fun y_7 => some (seq y_7.1 y_2.1, PUnit.unit))
                                    (some (false, PUnit.unit)))
                              (some (false, PUnit.unit)))
                            (some (false, PUnit.unit)))
                          (some (false, PUnit.unit)))
                        (some (false, PUnit.unit)))
                      (some (false, PUnit.unit)))
                  (some (false, PUnit.unit)))
def con12 : Con := ⟨12, ps12, rs12, F12, 0⟩
def cons12 : List Con := [con13, con20, con21, con22, con23, con24, con25, con26]
def ls12 : Nat → Option (LoopS (resT rs12 (refT ps12)).D) := (fun id => match Nat.beq id 0 with | true => some { inn := inn12_0, out := out12_0, run := R12_0 } | false => none)
theorem L12_0_eq (k : Nat) (x) : L12_0 (k + 1) x = evalL T cons12 Try.f12 ps12 rs12 ls12 0 (loopIn (bodyOf Try.f12) 0) inn12_0 out12_0 (L12_0 k) x := by
  obtain ⟨x3, x4, x5, x6, x7, x9, x8, x1, u⟩ := x
  kernel_rfl
theorem F12_eq (x) : F12 x = evalF T cons12 Try.f12 ps12 rs12 ls12 x := by
  obtain ⟨x0, u⟩ := x
  kernel_rfl
theorem all12 : allLoops (bodyOf Try.f12) = [(0, loopIn (bodyOf Try.f12) 0)] := by kernel_rfl
theorem ok12 : ConOk Try.prog con12 := by
  have h1 : Try.prog.follows .mixedOrders = true := by kernel_rfl
  have h2 : Try.f12.body = some (bodyOf Try.f12) := by kernel_rfl
  have h3 : (Try.f12.name == "runtime.NumGoroutine") = false := by kernel_rfl
  have h4 : Try.f12.results.toList.length = List.length rs12 := by kernel_rfl
  have h5 : Nat.ble (List.length ps12) Try.f12.ntmps = true := by kernel_rfl
  have hT : TabOk Try.prog T := tab_ok tab
  have hC : ∀ c ∈ cons12, ConOk Try.prog c := by
    intro c hc
    simp only [cons12, List.mem_cons, List.not_mem_nil, or_false] at hc
    rcases hc with rfl | rfl | rfl | rfl | rfl | rfl | rfl | rfl
    · exact ok13
    · exact ok20
    · exact ok21
    · exact ok22
    · exact ok23
    · exact ok24
    · exact ok25
    · exact ok26
  have h6 := Try.func12
  have h7 := F12_eq
  have hall := all12
  have h8_0 := L12_0_eq
  generalize Try.prog = P at *
  generalize Try.f12 = fn at *
  refine func_all (fn := fn) (body := bodyOf fn) (ls := ls12) hT hC h1 h6 h2 h3 h4 h5 F12 h7 fun p hp Ls hLs => ?_
  rw [hall] at hp
  simp only [List.mem_cons, List.not_mem_nil, or_false] at hp
  rcases hp with rfl
  · cases hLs
    exact ⟨L12_0, fun _ => rfl, h8_0, fun x r h => ⟨fuel, h⟩⟩
-- spinet/spinetlaw48 . SliceCuts
abbrev ps4 : List PK := [.val (.slice y3)]
abbrev rs4 : List RK := [.val .bool]
def inn4_2 : List LK := [.dat 0 (.slice y3), .dat 5 (.int .i64), .dat 7 (.int .i64), .own 3 y5 true true, .own 4 y3 true true, .obj 6 y5]
def out4_2 : List LK := [.dat 0 (.slice y3), .dat 5 (.int .i64), .own 3 y5 true true, .own 4 y3 true true, .obj 6 y5]
def inn4_0 : List LK := [.dat 0 (.slice y3), .dat 5 (.int .i64), .own 3 y5 true true, .own 4 y3 true true]
def out4_0 : List LK := [.dat 0 (.slice y3), .own 4 y3 true true]
def L4_2 : Nat → (liveT inn4_2).D → Option (LR (resT rs4 (refT ps4)).D (liveT out4_2).D)
  | 0, _ => none
  | k + 1, (x0, x5, x7, x3, x4, x6, _) =>
  br (ilt x7 (len x6.1))
    (chk (inb x7 (len x6.1))
      (br (rd y3 x6.1 x7).2.2.2.2.2.2.2.2.1
        (chk (inb x7 (len x6.1))
          (br x6.2.1
            (br (bnot (beqb (rd y3 x6.1 x7).2.2.2.2.2.1 (ieq (iadd IntKind.i64 x7 1) (len x6.1)))) (some (LR.ret (false, PUnit.unit)))
              ((L4_2 k) (x0, x5, iadd IntKind.i64 x7 1, x3, x4, x6, PUnit.unit)))
            (br (bnot (beqb (rd y3 x6.1 x7).2.2.2.2.2.1 false)) (some (LR.ret (false, PUnit.unit)))
              ((L4_2 k) (x0, x5, iadd IntKind.i64 x7 1, x3, x4, x6, PUnit.unit)))))
        (br x6.2.1
          (br (bnot (beqb false (ieq (iadd IntKind.i64 x7 1) (len x6.1)))) (some (LR.ret (false, PUnit.unit)))
            ((L4_2 k) (x0, x5, iadd IntKind.i64 x7 1, x3, x4, x6, PUnit.unit)))
          (br (bnot (beqb false false)) (some (LR.ret (false, PUnit.unit))) ((L4_2 k) (x0, x5, iadd IntKind.i64 x7 1, x3, x4, x6, PUnit.unit))))))
    (some (LR.out (x0, x5, x3, x4, x6, PUnit.unit)))
def R4_2 : (liveT inn4_2).D → Option (LR (resT rs4 (refT ps4)).D (liveT out4_2).D) := L4_2 fuel
def L4_0 : Nat → (liveT inn4_0).D → Option (LR (resT rs4 (refT ps4)).D (liveT out4_0).D)
  | 0, _ => none
  | k + 1, (x0, x5, x3, x4, _) =>
  br (ilt x5 (len x3))
    (chk (inb x5 (len x3))
      (br (ieq (len (rd y5 x3 (Int.ofNat (tn x5))).1) 0) (some (LR.ret (false, PUnit.unit)))
        (br (bnot (rd y5 x3 (Int.ofNat (tn x5))).2.1)
          (br (ilt (iadd IntKind.i64 x5 1) (len x3)) (some (LR.ret (false, PUnit.unit)))
            (obnd (F12 (rd y5 x3 (Int.ofNat (tn x5)), PUnit.unit)) fun y =>
              br (bnot y.1) (some (LR.ret (false, PUnit.unit)))
                (obnd (R4_2 (x0, x5, 0, x3, x4, rd y5 x3 (Int.ofNat (tn x5)), PUnit.unit)) fun r =>
                  lcase r (fun r_1 => some (LR.ret r_1)) fun b =>
                    chk (fits b.2.2.2.1 b.2.2.2.2.1.1) ((L4_0 k) (b.1, iadd IntKind.i64 b.2.1 1, b.2.2.1, app b.2.2.2.1 b.2.2.2.2.1.1, PUnit.unit)))))
          (obnd (F12 (rd y5 x3 (Int.ofNat (tn x5)), PUnit.unit)) fun y =>
            br (bnot y.1) (some (LR.ret (false, PUnit.unit)))
              (obnd (R4_2 (x0, x5, 0, x3, x4, rd y5 x3 (Int.ofNat (tn x5)), PUnit.unit)) fun r =>
                lcase r (fun r_1 => some (LR.ret r_1)) fun b =>
                  chk (fits b.2.2.2.1 b.2.2.2.2.1.1) ((L4_0 k) (b.1, iadd IntKind.i64 b.2.1 1, b.2.2.1, app b.2.2.2.1 b.2.2.2.2.1.1, PUnit.unit)))))))
    (some (LR.out (x0, x4, PUnit.unit)))
def R4_0 : (liveT inn4_0).D → Option (LR (resT rs4 (refT ps4)).D (liveT out4_0).D) := L4_0 fuel
def F4 : (argT ps4).D → Option (resT rs4 (refT ps4)).D
  | (x0, _) =>
  br (ilt 200 (len x0)) (some (true, PUnit.unit))
    (obnd (F11 (x0, PUnit.unit)) fun y =>
      obnd (R4_0 (x0, 0, y.1, [], PUnit.unit)) fun r =>
        lcase r some fun b =>
          obnd (F13 (b.2.1, b.1, PUnit.unit)) fun y_1 =>
            br y_1.1 (obnd (F14 PUnit.unit) fun y_2 => some (y_2.1, PUnit.unit)) (some (false, PUnit.unit)))
def con4 : Con := ⟨4, ps4, rs4, F4, 0⟩
def cons4 : List Con := [con11, con12, con13, con14]
def ls4 : Nat → Option (LoopS (resT rs4 (refT ps4)).D) := (fun id => match Nat.beq id 2 with | true => some { inn := inn4_2, out := out4_2, run := R4_2 } | false => match Nat.beq id 0 with | true => some { inn := inn4_0, out := out4_0, run := R4_0 } | false => none)
theorem L4_2_eq (k : Nat) (x) : L4_2 (k + 1) x = evalL T cons4 Try.f4 ps4 rs4 ls4 2 (loopIn (bodyOf Try.f4) 2) inn4_2 out4_2 (L4_2 k) x := by
  obtain ⟨x0, x5, x7, x3, x4, x6, u⟩ := x
  kernel_rfl
theorem L4_0_eq (k : Nat) (x) : L4_0 (k + 1) x = evalL T cons4 Try.f4 ps4 rs4 ls4 0 (loopIn (bodyOf Try.f4) 0) inn4_0 out4_0 (L4_0 k) x := by
  obtain ⟨x0, x5, x3, x4, u⟩ := x
  kernel_rfl
theorem F4_eq (x) : F4 x = evalF T cons4 Try.f4 ps4 rs4 ls4 x := by
  obtain ⟨x0, u⟩ := x
  kernel_rfl
theorem all4 : allLoops (bodyOf Try.f4) = [(0, loopIn (bodyOf Try.f4) 0), (2, loopIn (bodyOf Try.f4) 2)] := by kernel_rfl
theorem ok4 : ConOk Try.prog con4 := by
  have h1 : Try.prog.follows .mixedOrders = true := by kernel_rfl
  have h2 : Try.f4.body = some (bodyOf Try.f4) := by kernel_rfl
  have h3 : (Try.f4.name == "runtime.NumGoroutine") = false := by kernel_rfl
  have h4 : Try.f4.results.toList.length = List.length rs4 := by kernel_rfl
  have h5 : Nat.ble (List.length ps4) Try.f4.ntmps = true := by kernel_rfl
  have hT : TabOk Try.prog T := tab_ok tab
  have hC : ∀ c ∈ cons4, ConOk Try.prog c := by
    intro c hc
    simp only [cons4, List.mem_cons, List.not_mem_nil, or_false] at hc
    rcases hc with rfl | rfl | rfl | rfl
    · exact ok11
    · exact ok12
    · exact ok13
    · exact ok14
  have h6 := Try.func4
  have h7 := F4_eq
  have hall := all4
  have h8_2 := L4_2_eq
  have h8_0 := L4_0_eq
  generalize Try.prog = P at *
  generalize Try.f4 = fn at *
  refine func_all (fn := fn) (body := bodyOf fn) (ls := ls4) hT hC h1 h6 h2 h3 h4 h5 F4 h7 fun p hp Ls hLs => ?_
  rw [hall] at hp
  simp only [List.mem_cons, List.not_mem_nil, or_false] at hp
  rcases hp with rfl | rfl
  · cases hLs
    exact ⟨L4_0, fun _ => rfl, h8_0, fun x r h => ⟨fuel, h⟩⟩
  · cases hLs
    exact ⟨L4_2, fun _ => rfl, h8_2, fun x r h => ⟨fuel, h⟩⟩
end W
end Go.SX
