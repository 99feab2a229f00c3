/- Go functions as Lean functions: what the typed evaluator makes of their code; and that they do what these say. Printed by a program of this work. -/
import Derived.Test.YtmblgpbcclpgjaaDoorSxT
import Derived.Test.YtmblgpbcclpgjaaDoorSxLib
set_option maxRecDepth 1000000
set_option linter.unusedVariables false
namespace Go.SX
open Go.Proofs
namespace W
-- internal/stringslite . IndexByte
abbrev ps59 : List PK := [.val .str, .val (.int .u8)]
abbrev rs59 : List RK := [.val (.int .i64)]
def F59 : (argT ps59).D → Option (resT rs59 (refT ps59)).D
  | (x0, x1, _) =>
  obnd (F73 (x0, x1, PUnit.unit)) fun y => some (y.1, PUnit.unit)
def con59 : Con := ⟨59, ps59, rs59, F59, 0⟩
def cons59 : List Con := [con73]
def ls59 : Nat → Option (LoopS (resT rs59 (refT ps59)).D) := (fun id => none)
theorem F59_eq (x) : F59 x = evalF T cons59 Tryd.f59 ps59 rs59 ls59 x := by
  obtain ⟨x0, x1, u⟩ := x
  kernel_rfl
theorem all59 : allLoops (bodyOf Tryd.f59) = [] := by kernel_rfl
theorem ok59 : ConOk Tryd.prog con59 := by
  have h1 : Tryd.prog.follows .mixedOrders = true := by kernel_rfl
  have h2 : Tryd.f59.body = some (bodyOf Tryd.f59) := by kernel_rfl
  have h3 : (Tryd.f59.name == "runtime.NumGoroutine") = false := by kernel_rfl
  have h4 : Tryd.f59.results.toList.length = List.length rs59 := by kernel_rfl
  have h5 : Nat.ble (List.length ps59) Tryd.f59.ntmps = true := by kernel_rfl
  have hT : TabOk Tryd.prog T := tab_ok tab
  have hC : ∀ c ∈ cons59, ConOk Tryd.prog c := by
    intro c hc
    simp only [cons59, List.mem_cons, List.not_mem_nil, or_false] at hc
    rcases hc with rfl
    · exact ok73
  have h6 := Tryd.func59
  have h7 := F59_eq
  have hall := all59
  generalize Tryd.prog = P at *
  generalize Tryd.f59 = fn at *
  refine func_all (fn := fn) (body := bodyOf fn) (ls := ls59) hT hC h1 h6 h2 h3 h4 h5 F59 h7 fun p hp Ls hLs => ?_
  rw [hall] at hp
  cases hp
-- internal/stringslite . Index
abbrev ps75 : List PK := [.val .str, .val .str]
abbrev rs75 : List RK := [.val (.int .i64)]
def inn75_1 : List LK := [.dat 0 .str, .dat 1 .str, .dat 5 (.int .i64), .dat 6 (.int .u8), .dat 7 (.int .u8), .dat 8 (.int .i64), .dat 9 (.int .i64), .dat 10 (.int .i64)]
def out75_1 : List LK := []
def L75_1 : Nat → (liveT inn75_1).D → Option (LR (resT rs75 (refT ps75)).D (liveT out75_1).D)
  | 0, _ => none
  | k + 1, (x0, x1, x5, x6, x7, x8, x9, x10, _) =>
  br (ilt x8 x9)
    (chk (inb x8 (len x0))
      (br (bnot (ieq (rd (Ty.int IntKind.u8) x0 x8) x6))
        (chk (inp (iadd IntKind.i64 x8 1) x9 (len x0))
          (obnd (F59 (part x0 (iadd IntKind.i64 x8 1) x9, x6, PUnit.unit)) fun y =>
            br (ilt y.1 0) (some (LR.ret (-1, PUnit.unit)))
              (chk (inb (iadd IntKind.i64 (iadd IntKind.i64 x8 (iadd IntKind.i64 y.1 1)) 1) (len x0))
                (br (ieq (rd (Ty.int IntKind.u8) x0 (iadd IntKind.i64 (iadd IntKind.i64 x8 (iadd IntKind.i64 y.1 1)) 1)) x7)
                  (chk
                    (inp (iadd IntKind.i64 x8 (iadd IntKind.i64 y.1 1)) (iadd IntKind.i64 (iadd IntKind.i64 x8 (iadd IntKind.i64 y.1 1)) x5) (len x0))
                    (br
                      (seq
                        (part x0 (iadd IntKind.i64 x8 (iadd IntKind.i64 y.1 1)) (iadd IntKind.i64 (iadd IntKind.i64 x8 (iadd IntKind.i64 y.1 1)) x5))
                        x1)
                      (some (LR.ret (iadd IntKind.i64 x8 (iadd IntKind.i64 y.1 1), PUnit.unit))) none))
                  none))))
        (chk (inb (iadd IntKind.i64 x8 1) (len x0))
          (br (ieq (rd (Ty.int IntKind.u8) x0 (iadd IntKind.i64 x8 1)) x7)
            (chk (inp x8 (iadd IntKind.i64 x8 x5) (len x0)) (br (seq (part x0 x8 (iadd IntKind.i64 x8 x5)) x1) (some (LR.ret (x8, PUnit.unit))) none))
            none))))
    (some (LR.out PUnit.unit))
def R75_1 : (liveT inn75_1).D → Option (LR (resT rs75 (refT ps75)).D (liveT out75_1).D) := L75_1 fuel
def F75 : (argT ps75).D → Option (resT rs75 (refT ps75)).D
  | (x0, x1, _) =>
  br (ieq (len x1) 0) (some (0, PUnit.unit))
    (br (seq x1 x0) (some (0, PUnit.unit))
      (br (ieq (len x1) 1) (chk (inb 0 (len x1)) (obnd (F59 (x0, rd (Ty.int IntKind.u8) x1 0, PUnit.unit)) fun y => some (y.1, PUnit.unit)))
        (br (ile (len x0) (len x1)) (some (-1, PUnit.unit)) none)))
def con75 : Con := ⟨75, ps75, rs75, F75, 0⟩
def cons75 : List Con := [con59]
def ls75 : Nat → Option (LoopS (resT rs75 (refT ps75)).D) := (fun id => match Nat.beq id 1 with | true => some { inn := inn75_1, out := out75_1, run := R75_1 } | false => none)
theorem L75_1_eq (k : Nat) (x) : L75_1 (k + 1) x = evalL T cons75 Tryd.f75 ps75 rs75 ls75 1 (loopIn (bodyOf Tryd.f75) 1) inn75_1 out75_1 (L75_1 k) x := by
  obtain ⟨x0, x1, x5, x6, x7, x8, x9, x10, u⟩ := x
  kernel_rfl
theorem F75_eq (x) : F75 x = evalF T cons75 Tryd.f75 ps75 rs75 ls75 x := by
  obtain ⟨x0, x1, u⟩ := x
  kernel_rfl
theorem all75 : allLoops (bodyOf Tryd.f75) = [(1, loopIn (bodyOf Tryd.f75) 1)] := by kernel_rfl
theorem ok75 : ConOk Tryd.prog con75 := by
  have h1 : Tryd.prog.follows .mixedOrders = true := by kernel_rfl
  have h2 : Tryd.f75.body = some (bodyOf Tryd.f75) := by kernel_rfl
  have h3 : (Tryd.f75.name == "runtime.NumGoroutine") = false := by kernel_rfl
  have h4 : Tryd.f75.results.toList.length = List.length rs75 := by kernel_rfl
  have h5 : Nat.ble (List.length ps75) Tryd.f75.ntmps = true := by kernel_rfl
  have hT : TabOk Tryd.prog T := tab_ok tab
  have hC : ∀ c ∈ cons75, ConOk Tryd.prog c := by
    intro c hc
    simp only [cons75, List.mem_cons, List.not_mem_nil, or_false] at hc
    rcases hc with rfl
    · exact ok59
  have h6 := Tryd.func75
  have h7 := F75_eq
  have hall := all75
  have h8_1 := L75_1_eq
  generalize Tryd.prog = P at *
  generalize Tryd.f75 = fn at *
  refine func_all (fn := fn) (body := bodyOf fn) (ls := ls75) hT hC h1 h6 h2 h3 h4 h5 F75 h7 fun p hp Ls hLs => ?_
  rw [hall] at hp
  simp only [List.mem_cons, List.not_mem_nil, or_false] at hp
  rcases hp with rfl
  · cases hLs
    exact ⟨L75_1, fun _ => rfl, h8_1, fun x r h => ⟨fuel, h⟩⟩
-- strings . Index
abbrev ps65 : List PK := [.val .str, .val .str]
abbrev rs65 : List RK := [.val (.int .i64)]
def F65 : (argT ps65).D → Option (resT rs65 (refT ps65)).D
  | (x0, x1, _) =>
  obnd (F75 (x0, x1, PUnit.unit)) fun y => some (y.1, PUnit.unit)
def con65 : Con := ⟨65, ps65, rs65, F65, 0⟩
def cons65 : List Con := [con75]
def ls65 : Nat → Option (LoopS (resT rs65 (refT ps65)).D) := (fun id => none)
theorem F65_eq (x) : F65 x = evalF T cons65 Tryd.f65 ps65 rs65 ls65 x := by
  obtain ⟨x0, x1, u⟩ := x
  kernel_rfl
theorem all65 : allLoops (bodyOf Tryd.f65) = [] := by kernel_rfl
theorem ok65 : ConOk Tryd.prog con65 := by
  have h1 : Tryd.prog.follows .mixedOrders = true := by kernel_rfl
  have h2 : Tryd.f65.body = some (bodyOf Tryd.f65) := by kernel_rfl
  have h3 : (Tryd.f65.name == "runtime.NumGoroutine") = false := by kernel_rfl
  have h4 : Tryd.f65.results.toList.length = List.length rs65 := by kernel_rfl
  have h5 : Nat.ble (List.length ps65) Tryd.f65.ntmps = true := by kernel_rfl
  have hT : TabOk Tryd.prog T := tab_ok tab
  have hC : ∀ c ∈ cons65, ConOk Tryd.prog c := by
    intro c hc
    simp only [cons65, List.mem_cons, List.not_mem_nil, or_false] at hc
    rcases hc with rfl
    · exact ok75
  have h6 := Tryd.func65
  have h7 := F65_eq
  have hall := all65
  generalize Tryd.prog = P at *
  generalize Tryd.f65 = fn at *
  refine func_all (fn := fn) (body := bodyOf fn) (ls := ls65) hT hC h1 h6 h2 h3 h4 h5 F65 h7 fun p hp Ls hLs => ?_
  rw [hall] at hp
  cases hp
-- strings . genSplit
abbrev ps51 : List PK := [.val .str, .val .str, .val (.int .i64), .val (.int .i64)]
abbrev rs51 : List RK := [.val (.slice .str)]
def inn51_0 : List LK := [.dat 0 .str, .dat 1 .str, .dat 2 (.int .i64), .dat 3 (.int .i64), .dat 10 (.int .i64), .own 9 .str true true]
def out51_0 : List LK := [.dat 0 .str, .dat 10 (.int .i64), .own 9 .str true true]
def L51_0 : Nat → (liveT inn51_0).D → Option (LR (resT rs51 (refT ps51)).D (liveT out51_0).D)
  | 0, _ => none
  | k + 1, (x0, x1, x2, x3, x10, x9, _) =>
  br (ilt x10 x3)
    (obnd (F65 (x0, x1, PUnit.unit)) fun y =>
      br (ilt y.1 0) (some (LR.out (x0, x10, x9, PUnit.unit)))
        (chk (inp 0 (iadd IntKind.i64 y.1 x2) (len x0))
          (chk (inb x10 (len x9))
            (chk (inp (iadd IntKind.i64 y.1 (len x1)) (len x0) (len x0))
              ((L51_0 k)
                (part x0 (iadd IntKind.i64 y.1 (len x1)) (len x0), x1, x2, x3, iadd IntKind.i64 x10 1,
                  upd x9 (Int.ofNat (tn x10)) (part x0 0 (iadd IntKind.i64 y.1 x2)), PUnit.unit))))))
    (some (LR.out (x0, x10, x9, PUnit.unit)))
def R51_0 : (liveT inn51_0).D → Option (LR (resT rs51 (refT ps51)).D (liveT out51_0).D) := L51_0 fuel
def F51 : (argT ps51).D → Option (resT rs51 (refT ps51)).D
  | (x0, x1, x2, x3, _) =>
  br (ieq x3 0) (some ([], PUnit.unit))
    (br (seq x1 []) none
      (br (ilt x3 0)
        (obnd (F45 (x0, x1, PUnit.unit)) fun y =>
          chk
            (inp (imin (iadd IntKind.i64 y.1 1) (iadd IntKind.i64 (len x0) 1)) (imin (iadd IntKind.i64 y.1 1) (iadd IntKind.i64 (len x0) 1))
              1099511627775)
            (chk (ile 0 (imin (iadd IntKind.i64 y.1 1) (iadd IntKind.i64 (len x0) 1)))
              (obnd
                (R51_0
                  (x0, x1, x2, isub IntKind.i64 (imin (iadd IntKind.i64 y.1 1) (iadd IntKind.i64 (len x0) 1)) 1, 0,
                    zeros Ty.str (imin (iadd IntKind.i64 y.1 1) (iadd IntKind.i64 (len x0) 1)), PUnit.unit))
                fun r =>
                lcase r some fun b =>
                  chk (inb b.2.1 (len b.2.2.1))
                    (chk (inp 0 (iadd IntKind.i64 b.2.1 1) (len (upd b.2.2.1 (Int.ofNat (tn b.2.1)) b.1)))
                      (chk (ile (len (upd b.2.2.1 (Int.ofNat (tn b.2.1)) b.1)) (len (upd b.2.2.1 (Int.ofNat (tn b.2.1)) b.1)))
                        (some (part (upd b.2.2.1 (Int.ofNat (tn b.2.1)) b.1) 0 (iadd IntKind.i64 b.2.1 1), PUnit.unit)))))))
        (chk (inp (imin x3 (iadd IntKind.i64 (len x0) 1)) (imin x3 (iadd IntKind.i64 (len x0) 1)) 1099511627775)
          (chk (ile 0 (imin x3 (iadd IntKind.i64 (len x0) 1)))
            (obnd
              (R51_0
                (x0, x1, x2, isub IntKind.i64 (imin x3 (iadd IntKind.i64 (len x0) 1)) 1, 0, zeros Ty.str (imin x3 (iadd IntKind.i64 (len x0) 1)),
                  PUnit.unit))
              fun r =>
              lcase r some fun b =>
                chk (inb b.2.1 (len b.2.2.1))
                  (chk (inp 0 (iadd IntKind.i64 b.2.1 1) (len (upd b.2.2.1 (Int.ofNat (tn b.2.1)) b.1)))
                    (chk (ile (len (upd b.2.2.1 (Int.ofNat (tn b.2.1)) b.1)) (len (upd b.2.2.1 (Int.ofNat (tn b.2.1)) b.1)))
                      (some (part (upd b.2.2.1 (Int.ofNat (tn b.2.1)) b.1) 0 (iadd IntKind.i64 b.2.1 1), PUnit.unit)))))))))
def con51 : Con := ⟨51, ps51, rs51, F51, 0⟩
def cons51 : List Con := [con45, con65]
def ls51 : Nat → Option (LoopS (resT rs51 (refT ps51)).D) := (fun id => match Nat.beq id 0 with | true => some { inn := inn51_0, out := out51_0, run := R51_0 } | false => none)
theorem L51_0_eq (k : Nat) (x) : L51_0 (k + 1) x = evalL T cons51 Tryd.f51 ps51 rs51 ls51 0 (loopIn (bodyOf Tryd.f51) 0) inn51_0 out51_0 (L51_0 k) x := by
  obtain ⟨x0, x1, x2, x3, x10, x9, u⟩ := x
  kernel_rfl
theorem F51_eq (x) : F51 x = evalF T cons51 Tryd.f51 ps51 rs51 ls51 x := by
  obtain ⟨x0, x1, x2, x3, u⟩ := x
  kernel_rfl
theorem all51 : allLoops (bodyOf Tryd.f51) = [(0, loopIn (bodyOf Tryd.f51) 0)] := by kernel_rfl
theorem ok51 : ConOk Tryd.prog con51 := by
  have h1 : Tryd.prog.follows .mixedOrders = true := by kernel_rfl
  have h2 : Tryd.f51.body = some (bodyOf Tryd.f51) := by kernel_rfl
  have h3 : (Tryd.f51.name == "runtime.NumGoroutine") = false := by kernel_rfl
  have h4 : Tryd.f51.results.toList.length = List.length rs51 := by kernel_rfl
  have h5 : Nat.ble (List.length ps51) Tryd.f51.ntmps = true := by kernel_rfl
  have hT : TabOk Tryd.prog T := tab_ok tab
  have hC : ∀ c ∈ cons51, ConOk Tryd.prog c := by
    intro c hc
    simp only [cons51, List.mem_cons, List.not_mem_nil, or_false] at hc
    rcases hc with rfl | rfl
    · exact ok45
    · exact ok65
  have h6 := Tryd.func51
  have h7 := F51_eq
  have hall := all51
  have h8_0 := L51_0_eq
  generalize Tryd.prog = P at *
  generalize Tryd.f51 = fn at *
  refine func_all (fn := fn) (body := bodyOf fn) (ls := ls51) hT hC h1 h6 h2 h3 h4 h5 F51 h7 fun p hp Ls hLs => ?_
  rw [hall] at hp
  simp only [List.mem_cons, List.not_mem_nil, or_false] at hp
  rcases hp with rfl
  · cases hLs
    exact ⟨L51_0, fun _ => rfl, h8_0, fun x r h => ⟨fuel, h⟩⟩
-- strings . Split
abbrev ps35 : List PK := [.val .str, .val .str]
abbrev rs35 : List RK := [.val (.slice .str)]
def F35 : (argT ps35).D → Option (resT rs35 (refT ps35)).D
  | (x0, x1, _) =>
  obnd (F51 (x0, x1, 0, -1, PUnit.unit)) fun y => some (y.1, PUnit.unit)
def con35 : Con := ⟨35, ps35, rs35, F35, 0⟩
def cons35 : List Con := [con51]
def ls35 : Nat → Option (LoopS (resT rs35 (refT ps35)).D) := (fun id => none)
theorem F35_eq (x) : F35 x = evalF T cons35 Tryd.f35 ps35 rs35 ls35 x := by
  obtain ⟨x0, x1, u⟩ := x
  kernel_rfl
theorem all35 : allLoops (bodyOf Tryd.f35) = [] := by kernel_rfl
theorem ok35 : ConOk Tryd.prog con35 := by
  have h1 : Tryd.prog.follows .mixedOrders = true := by kernel_rfl
  have h2 : Tryd.f35.body = some (bodyOf Tryd.f35) := by kernel_rfl
  have h3 : (Tryd.f35.name == "runtime.NumGoroutine") = false := by kernel_rfl
  have h4 : Tryd.f35.results.toList.length = List.length rs35 := by kernel_rfl
  have h5 : Nat.ble (List.length ps35) Tryd.f35.ntmps = true := by kernel_rfl
  have hT : TabOk Tryd.prog T := tab_ok tab
  have hC : ∀ c ∈ cons35, ConOk Tryd.prog c := by
    intro c hc
    simp only [cons35, List.mem_cons, List.not_mem_nil, or_false] at hc
    rcases hc with rfl
    · exact ok51
  have h6 := Tryd.func35
  have h7 := F35_eq
  have hall := all35
  generalize Tryd.prog = P at *
  generalize Tryd.f35 = fn at *
  refine func_all (fn := fn) (body := bodyOf fn) (ls := ls35) hT hC h1 h6 h2 h3 h4 h5 F35 h7 fun p hp Ls hLs => ?_
  rw [hall] at hp
  cases hp
-- spinet/wave . level
abbrev ps43 : List PK := [.val y3, .val (.int .i64)]
abbrev rs43 : List RK := [.val .bool]
def F43 : (argT ps43).D → Option (resT rs43 (refT ps43)).D
  | (x0, x1, _) =>
  chk (inb x1 7)
    (some
      (rd Ty.bool [x0.2.2.1, x0.2.2.2.1, x0.2.2.2.2.1, x0.2.2.2.2.2.1, x0.2.2.2.2.2.2.1, x0.2.2.2.2.2.2.2.1, x0.2.2.2.2.2.2.2.2.1] x1, PUnit.unit))
def con43 : Con := ⟨43, ps43, rs43, F43, 0⟩
def cons43 : List Con := []
def ls43 : Nat → Option (LoopS (resT rs43 (refT ps43)).D) := (fun id => none)
theorem F43_eq (x) : F43 x = evalF T cons43 Tryd.f43 ps43 rs43 ls43 x := by
  obtain ⟨x0, x1, u⟩ := x
  kernel_rfl
theorem all43 : allLoops (bodyOf Tryd.f43) = [] := by kernel_rfl
theorem ok43 : ConOk Tryd.prog con43 := by
  have h1 : Tryd.prog.follows .mixedOrders = true := by kernel_rfl
  have h2 : Tryd.f43.body = some (bodyOf Tryd.f43) := by kernel_rfl
  have h3 : (Tryd.f43.name == "runtime.NumGoroutine") = false := by kernel_rfl
  have h4 : Tryd.f43.results.toList.length = List.length rs43 := by kernel_rfl
  have h5 : Nat.ble (List.length ps43) Tryd.f43.ntmps = true := by kernel_rfl
  have hT : TabOk Tryd.prog T := tab_ok tab
  have hC : ∀ c ∈ cons43, ConOk Tryd.prog c := fun c hc => by cases hc
  have h6 := Tryd.func43
  have h7 := F43_eq
  have hall := all43
  generalize Tryd.prog = P at *
  generalize Tryd.f43 = fn at *
  refine func_all (fn := fn) (body := bodyOf fn) (ls := ls43) hT hC h1 h6 h2 h3 h4 h5 F43 h7 fun p hp Ls hLs => ?_
  rw [hall] at hp
  cases hp
-- spinet/wave . Line
abbrev ps26 : List PK := [.val (.int .i64), .val (.slice y3)]
abbrev rs26 : List RK := [.val .str]
def inn26_0 : List LK := [.dat 0 (.int .i64), .dat 14 (.slice y3), .dat 15 (.int .i64), .dat 16 (.int .i64), .obj 5 (.bld 69 5)]
def out26_0 : List LK := [.obj 5 (.bld 69 5)]
def L26_0 : Nat → (liveT inn26_0).D → Option (LR (resT rs26 (refT ps26)).D (liveT out26_0).D)
  | 0, _ => none
  | k + 1, (x0, x14, x15, x16, x5, _) =>
  br (ilt x16 x15)
    (chk (inb x16 (len x14))
      (obnd (F43 (rd y3 x14 x16, x0, PUnit.unit)) fun y =>
        br y.1 (chk (fits x5 [35]) ((L26_0 k) (x0, x14, x15, iadd IntKind.i64 x16 1, app x5 [35], PUnit.unit)))
          (chk (fits x5 [95]) ((L26_0 k) (x0, x14, x15, iadd IntKind.i64 x16 1, app x5 [95], PUnit.unit)))))
    (some (LR.out (x5, PUnit.unit)))
def R26_0 : (liveT inn26_0).D → Option (LR (resT rs26 (refT ps26)).D (liveT out26_0).D) := L26_0 fuel
def F26 : (argT ps26).D → Option (resT rs26 (refT ps26)).D
  | (x0, x1, _) =>
  br (ilt x0 0) (some ([], PUnit.unit))
    (br (ilt 6 x0) (some ([], PUnit.unit)) (obnd (R26_0 (x0, x1, len x1, 0, [], PUnit.unit)) fun r => lcase r some fun b => some (b.1, PUnit.unit)))
def con26 : Con := ⟨26, ps26, rs26, F26, 0⟩
def cons26 : List Con := [con34, con43, con44]
def ls26 : Nat → Option (LoopS (resT rs26 (refT ps26)).D) := (fun id => match Nat.beq id 0 with | true => some { inn := inn26_0, out := out26_0, run := R26_0 } | false => none)
theorem L26_0_eq (k : Nat) (x) : L26_0 (k + 1) x = evalL T cons26 Tryd.f26 ps26 rs26 ls26 0 (loopIn (bodyOf Tryd.f26) 0) inn26_0 out26_0 (L26_0 k) x := by
  obtain ⟨x0, x14, x15, x16, x5, u⟩ := x
  kernel_rfl
theorem F26_eq (x) : F26 x = evalF T cons26 Tryd.f26 ps26 rs26 ls26 x := by
  obtain ⟨x0, x1, u⟩ := x
  kernel_rfl
theorem all26 : allLoops (bodyOf Tryd.f26) = [(0, loopIn (bodyOf Tryd.f26) 0)] := by kernel_rfl
theorem ok26 : ConOk Tryd.prog con26 := by
  have h1 : Tryd.prog.follows .mixedOrders = true := by kernel_rfl
  have h2 : Tryd.f26.body = some (bodyOf Tryd.f26) := by kernel_rfl
  have h3 : (Tryd.f26.name == "runtime.NumGoroutine") = false := by kernel_rfl
  have h4 : Tryd.f26.results.toList.length = List.length rs26 := by kernel_rfl
  have h5 : Nat.ble (List.length ps26) Tryd.f26.ntmps = true := by kernel_rfl
  have hT : TabOk Tryd.prog T := tab_ok tab
  have hC : ∀ c ∈ cons26, ConOk Tryd.prog c := by
    intro c hc
    simp only [cons26, List.mem_cons, List.not_mem_nil, or_false] at hc
    rcases hc with rfl | rfl | rfl
    · exact ok34
    · exact ok43
    · exact ok44
  have h6 := Tryd.func26
  have h7 := F26_eq
  have hall := all26
  have h8_0 := L26_0_eq
  generalize Tryd.prog = P at *
  generalize Tryd.f26 = fn at *
  refine func_all (fn := fn) (body := bodyOf fn) (ls := ls26) hT hC h1 h6 h2 h3 h4 h5 F26 h7 fun p hp Ls hLs => ?_
  rw [hall] at hp
  simp only [List.mem_cons, List.not_mem_nil, or_false] at hp
  rcases hp with rfl
  · cases hLs
    exact ⟨L26_0, fun _ => rfl, h8_0, fun x r h => ⟨fuel, h⟩⟩
-- spinet/wave . Text
abbrev ps15 : List PK := [.val (.slice y3)]
abbrev rs15 : List RK := [.val .str]
def inn15_0 : List LK := [.dat 0 (.slice y3), .dat 6 (.slice .str), .dat 7 (.int .i64), .dat 8 (.int .i64), .obj 3 (.bld 69 5)]
def out15_0 : List LK := [.obj 3 (.bld 69 5)]
def L15_0 : Nat → (liveT inn15_0).D → Option (LR (resT rs15 (refT ps15)).D (liveT out15_0).D)
  | 0, _ => none
  | k + 1, (x0, x6, x7, x8, x3, _) =>
  br (ilt x8 x7)
    (chk (inb x8 (len x6))
      (obnd (F37 ([32], isub IntKind.i64 5 (len (rd Ty.str x6 x8)), PUnit.unit)) fun y =>
        chk (fits (rd Ty.str x6 x8) y.1)
          (obnd (F26 (x8, x0, PUnit.unit)) fun y_1 =>
            chk (fits (app (rd Ty.str x6 x8) y.1) y_1.1)
              (chk (fits (app (app (rd Ty.str x6 x8) y.1) y_1.1) [10])
                (chk (fits x3 (app (app (app (rd Ty.str x6 x8) y.1) y_1.1) [10]))
                  ((L15_0 k) (x0, x6, x7, iadd IntKind.i64 x8 1, app x3 (app (app (app (rd Ty.str x6 x8) y.1) y_1.1) [10]), PUnit.unit)))))))
    (some (LR.out (x3, PUnit.unit)))
def R15_0 : (liveT inn15_0).D → Option (LR (resT rs15 (refT ps15)).D (liveT out15_0).D) := L15_0 fuel
def F15 : (argT ps15).D → Option (resT rs15 (refT ps15)).D
  | (x0, _) =>
  obnd (F35 ([82, 69, 65, 68, 32, 66, 65, 32, 66, 83, 32, 76, 73, 67, 32, 65, 86, 77, 65, 32, 66, 85, 83, 89, 32, 77, 73, 78, 69], [32], PUnit.unit))
    fun y => obnd (R15_0 (x0, y.1, len y.1, 0, [], PUnit.unit)) fun r => lcase r some fun b => some (b.1, PUnit.unit)
def con15 : Con := ⟨15, ps15, rs15, F15, 0⟩
def cons15 : List Con := [con26, con32, con34, con35, con37]
def ls15 : Nat → Option (LoopS (resT rs15 (refT ps15)).D) := (fun id => match Nat.beq id 0 with | true => some { inn := inn15_0, out := out15_0, run := R15_0 } | false => none)
theorem L15_0_eq (k : Nat) (x) : L15_0 (k + 1) x = evalL T cons15 Tryd.f15 ps15 rs15 ls15 0 (loopIn (bodyOf Tryd.f15) 0) inn15_0 out15_0 (L15_0 k) x := by
  obtain ⟨x0, x6, x7, x8, x3, u⟩ := x
  kernel_rfl
theorem F15_eq (x) : F15 x = evalF T cons15 Tryd.f15 ps15 rs15 ls15 x := by
  obtain ⟨x0, u⟩ := x
  kernel_rfl
theorem all15 : allLoops (bodyOf Tryd.f15) = [(0, loopIn (bodyOf Tryd.f15) 0)] := by kernel_rfl
theorem ok15 : ConOk Tryd.prog con15 := by
  have h1 : Tryd.prog.follows .mixedOrders = true := by kernel_rfl
  have h2 : Tryd.f15.body = some (bodyOf Tryd.f15) := by kernel_rfl
  have h3 : (Tryd.f15.name == "runtime.NumGoroutine") = false := by kernel_rfl
  have h4 : Tryd.f15.results.toList.length = List.length rs15 := by kernel_rfl
  have h5 : Nat.ble (List.length ps15) Tryd.f15.ntmps = true := by kernel_rfl
  have hT : TabOk Tryd.prog T := tab_ok tab
  have hC : ∀ c ∈ cons15, ConOk Tryd.prog c := by
    intro c hc
    simp only [cons15, List.mem_cons, List.not_mem_nil, or_false] at hc
    rcases hc with rfl | rfl | rfl | rfl | rfl
    · exact ok26
    · exact ok32
    · exact ok34
    · exact ok35
    · exact ok37
  have h6 := Tryd.func15
  have h7 := F15_eq
  have hall := all15
  have h8_0 := L15_0_eq
  generalize Tryd.prog = P at *
  generalize Tryd.f15 = fn at *
  refine func_all (fn := fn) (body := bodyOf fn) (ls := ls15) hT hC h1 h6 h2 h3 h4 h5 F15 h7 fun p hp Ls hLs => ?_
  rw [hall] at hp
  simp only [List.mem_cons, List.not_mem_nil, or_false] at hp
  rcases hp with rfl
  · cases hLs
    exact ⟨L15_0, fun _ => rfl, h8_0, fun x r h => ⟨fuel, h⟩⟩
-- spinet/wave . Read
abbrev ps14 : List PK := [.val .str]
abbrev rs14 : List RK := [.val (.slice y3), .val (.int .i64)]
def inn14_2 : List LK := [.dat 0 .str, .dat 4 (.slice .str), .dat 6 (.int .i64), .dat 25 (.int .i64), .dat 26 (.int .i64), .dat 29 (.int .i64), .own 5 y3 true true, .obj 7 (.arr 7 .bool)]
def out14_2 : List LK := [.dat 0 .str, .dat 4 (.slice .str), .dat 25 (.int .i64), .dat 26 (.int .i64), .own 5 y3 true true, .obj 7 (.arr 7 .bool)]
def inn14_0 : List LK := [.dat 0 .str, .dat 4 (.slice .str), .dat 25 (.int .i64), .dat 26 (.int .i64), .own 5 y3 true true]
def out14_0 : List LK := [.dat 0 .str, .own 5 y3 true true]
def L14_2 : Nat → (liveT inn14_2).D → Option (LR (resT rs14 (refT ps14)).D (liveT out14_2).D)
  | 0, _ => none
  | k + 1, (x0, x4, x6, x25, x26, x29, x5, x7, _) =>
  br (ilt x29 7)
    (chk (inb x29 (len x4))
      (br (ilt (iadd IntKind.i64 x6 5) (len (rd Ty.str x4 x29)))
        (chk (inb x29 (len x4))
          (chk (inb (iadd IntKind.i64 x6 5) (len (rd Ty.str x4 x29)))
            (chk (inb x29 7)
              ((L14_2 k)
                (x0, x4, x6, x25, x26, iadd IntKind.i64 x29 1, x5,
                  upd x7 (Int.ofNat (tn x29)) (ieq (rd (Ty.int IntKind.u8) (rd Ty.str x4 x29) (iadd IntKind.i64 x6 5)) 35), PUnit.unit)))))
        (chk (inb x29 7) ((L14_2 k) (x0, x4, x6, x25, x26, iadd IntKind.i64 x29 1, x5, upd x7 (Int.ofNat (tn x29)) false, PUnit.unit)))))
    (some (LR.out (x0, x4, x25, x26, x5, x7, PUnit.unit)))
def R14_2 : (liveT inn14_2).D → Option (LR (resT rs14 (refT ps14)).D (liveT out14_2).D) := L14_2 fuel
def L14_0 : Nat → (liveT inn14_0).D → Option (LR (resT rs14 (refT ps14)).D (liveT out14_0).D)
  | 0, _ => none
  | k + 1, (x0, x4, x25, x26, x5, _) =>
  br (ilt x26 x25)
    (obnd (R14_2 (x0, x4, x26, x25, x26, 0, x5, [false, false, false, false, false, false, false], PUnit.unit)) fun r =>
      lcase r (fun r_1 => some (LR.ret r_1)) fun b =>
        chk (inb 0 7)
          (chk (inb 1 7)
            (chk (inb 2 7)
              (chk (inb 3 7)
                (chk (inb 4 7)
                  (chk (inb 5 7)
                    (chk (inb 6 7)
                      (chk
                        (fits b.2.2.2.2.1
                          [(0, 0, rd Ty.bool b.2.2.2.2.2.1 (Int.ofNat (tn 0)), rd Ty.bool b.2.2.2.2.2.1 (Int.ofNat (tn 1)),
                              rd Ty.bool b.2.2.2.2.2.1 (Int.ofNat (tn 2)), rd Ty.bool b.2.2.2.2.2.1 (Int.ofNat (tn 3)),
                              rd Ty.bool b.2.2.2.2.2.1 (Int.ofNat (tn 4)), rd Ty.bool b.2.2.2.2.2.1 (Int.ofNat (tn 5)),
                              rd Ty.bool b.2.2.2.2.2.1 (Int.ofNat (tn 6)), PUnit.unit)])
                        ((L14_0 k)
                          (b.1, b.2.1, b.2.2.1, iadd IntKind.i64 b.2.2.2.1 1,
                            app b.2.2.2.2.1
                              [(0, 0, rd Ty.bool b.2.2.2.2.2.1 (Int.ofNat (tn 0)), rd Ty.bool b.2.2.2.2.2.1 (Int.ofNat (tn 1)),
                                  rd Ty.bool b.2.2.2.2.2.1 (Int.ofNat (tn 2)), rd Ty.bool b.2.2.2.2.2.1 (Int.ofNat (tn 3)),
                                  rd Ty.bool b.2.2.2.2.2.1 (Int.ofNat (tn 4)), rd Ty.bool b.2.2.2.2.2.1 (Int.ofNat (tn 5)),
                                  rd Ty.bool b.2.2.2.2.2.1 (Int.ofNat (tn 6)), PUnit.unit)],
                            PUnit.unit))))))))))
    (some (LR.out (x0, x5, PUnit.unit)))
def R14_0 : (liveT inn14_0).D → Option (LR (resT rs14 (refT ps14)).D (liveT out14_0).D) := L14_0 fuel
def F14 : (argT ps14).D → Option (resT rs14 (refT ps14)).D
  | (x0, _) =>
  obnd (F35 (x0, [10], PUnit.unit)) fun y =>
    br (bnot (ieq (len y.1) 8)) (some ([], 21, PUnit.unit))
      (chk (inb 0 (len y.1))
        (br (ilt (len (rd Ty.str y.1 0)) 5) (some ([], 21, PUnit.unit))
          (chk (inb 0 (len y.1))
            (obnd (R14_0 (x0, y.1, isub IntKind.i64 (len (rd Ty.str y.1 0)) 5, 0, [], PUnit.unit)) fun r =>
              lcase r some fun b =>
                obnd (F15 (b.2.1, PUnit.unit)) fun y_1 => br (bnot (seq y_1.1 b.1)) (some ([], 21, PUnit.unit)) (some (b.2.1, 0, PUnit.unit))))))
def con14 : Con := ⟨14, ps14, rs14, F14, 0⟩
def cons14 : List Con := [con15, con35]
def ls14 : Nat → Option (LoopS (resT rs14 (refT ps14)).D) := (fun id => match Nat.beq id 2 with | true => some { inn := inn14_2, out := out14_2, run := R14_2 } | false => match Nat.beq id 0 with | true => some { inn := inn14_0, out := out14_0, run := R14_0 } | false => none)
theorem L14_2_eq (k : Nat) (x) : L14_2 (k + 1) x = evalL T cons14 Tryd.f14 ps14 rs14 ls14 2 (loopIn (bodyOf Tryd.f14) 2) inn14_2 out14_2 (L14_2 k) x := by
  obtain ⟨x0, x4, x6, x25, x26, x29, x5, x7, u⟩ := x
  kernel_rfl
theorem L14_0_eq (k : Nat) (x) : L14_0 (k + 1) x = evalL T cons14 Tryd.f14 ps14 rs14 ls14 0 (loopIn (bodyOf Tryd.f14) 0) inn14_0 out14_0 (L14_0 k) x := by
  obtain ⟨x0, x4, x25, x26, x5, u⟩ := x
  kernel_rfl
theorem F14_eq (x) : F14 x = evalF T cons14 Tryd.f14 ps14 rs14 ls14 x := by
  obtain ⟨x0, u⟩ := x
  kernel_rfl
theorem all14 : allLoops (bodyOf Tryd.f14) = [(0, loopIn (bodyOf Tryd.f14) 0), (2, loopIn (bodyOf Tryd.f14) 2)] := by kernel_rfl
theorem ok14 : ConOk Tryd.prog con14 := by
  have h1 : Tryd.prog.follows .mixedOrders = true := by kernel_rfl
  have h2 : Tryd.f14.body = some (bodyOf Tryd.f14) := by kernel_rfl
  have h3 : (Tryd.f14.name == "runtime.NumGoroutine") = false := by kernel_rfl
  have h4 : Tryd.f14.results.toList.length = List.length rs14 := by kernel_rfl
  have h5 : Nat.ble (List.length ps14) Tryd.f14.ntmps = true := by kernel_rfl
  have hT : TabOk Tryd.prog T := tab_ok tab
  have hC : ∀ c ∈ cons14, ConOk Tryd.prog c := by
    intro c hc
    simp only [cons14, List.mem_cons, List.not_mem_nil, or_false] at hc
    rcases hc with rfl | rfl
    · exact ok15
    · exact ok35
  have h6 := Tryd.func14
  have h7 := F14_eq
  have hall := all14
  have h8_2 := L14_2_eq
  have h8_0 := L14_0_eq
  generalize Tryd.prog = P at *
  generalize Tryd.f14 = fn at *
  refine func_all (fn := fn) (body := bodyOf fn) (ls := ls14) hT hC h1 h6 h2 h3 h4 h5 F14 h7 fun p hp Ls hLs => ?_
  rw [hall] at hp
  simp only [List.mem_cons, List.not_mem_nil, or_false] at hp
  rcases hp with rfl | rfl
  · cases hLs
    exact ⟨L14_0, fun _ => rfl, h8_0, fun x r h => ⟨fuel, h⟩⟩
  · cases hLs
    exact ⟨L14_2, fun _ => rfl, h8_2, fun x r h => ⟨fuel, h⟩⟩
-- spinet/spinetlaw50 . alive
abbrev ps16 : List PK := []
abbrev rs16 : List RK := [.val .bool]
def F16 : (argT ps16).D → Option (resT rs16 (refT ps16)).D
  | _ =>
  obnd
    (F26
      (0, [(0, 0, true, false, false, false, false, false, false, PUnit.unit), (0, 0, false, false, false, false, false, false, false, PUnit.unit)],
        PUnit.unit))
    fun y => br (seq y.1 [35, 95]) (some (true, PUnit.unit)) (some (false, PUnit.unit))
def con16 : Con := ⟨16, ps16, rs16, F16, 0⟩
def cons16 : List Con := [con26]
def ls16 : Nat → Option (LoopS (resT rs16 (refT ps16)).D) := (fun id => none)
theorem F16_eq (x) : F16 x = evalF T cons16 Tryd.f16 ps16 rs16 ls16 x := by
  kernel_rfl
theorem all16 : allLoops (bodyOf Tryd.f16) = [] := by kernel_rfl
theorem ok16 : ConOk Tryd.prog con16 := by
  have h1 : Tryd.prog.follows .mixedOrders = true := by kernel_rfl
  have h2 : Tryd.f16.body = some (bodyOf Tryd.f16) := by kernel_rfl
  have h3 : (Tryd.f16.name == "runtime.NumGoroutine") = false := by kernel_rfl
  have h4 : Tryd.f16.results.toList.length = List.length rs16 := by kernel_rfl
  have h5 : Nat.ble (List.length ps16) Tryd.f16.ntmps = true := by kernel_rfl
  have hT : TabOk Tryd.prog T := tab_ok tab
  have hC : ∀ c ∈ cons16, ConOk Tryd.prog c := by
    intro c hc
    simp only [cons16, List.mem_cons, List.not_mem_nil, or_false] at hc
    rcases hc with rfl
    · exact ok26
  have h6 := Tryd.func16
  have h7 := F16_eq
  have hall := all16
  generalize Tryd.prog = P at *
  generalize Tryd.f16 = fn at *
  refine func_all (fn := fn) (body := bodyOf fn) (ls := ls16) hT hC h1 h6 h2 h3 h4 h5 F16 h7 fun p hp Ls hLs => ?_
  rw [hall] at hp
  cases hp
-- spinet/spinetlaw50 . WaveReads
abbrev ps4 : List PK := [.val .str]
abbrev rs4 : List RK := [.val .bool]
def inn4_0 : List LK := [.dat 0 .str, .dat 3 (.slice y3), .dat 5 (.int .i64)]
def out4_0 : List LK := [.dat 0 .str, .dat 3 (.slice y3)]
def L4_0 : Nat → (liveT inn4_0).D → Option (LR (resT rs4 (refT ps4)).D (liveT out4_0).D)
  | 0, _ => none
  | k + 1, (x0, x3, x5, _) =>
  br (ilt x5 (len x3))
    (chk (inb x5 (len x3))
      (br (bnot (ieq (rd y3 x3 x5).1 0)) (some (LR.ret (false, PUnit.unit)))
        (chk (inb x5 (len x3))
          (br (bnot (ieq (rd y3 x3 x5).2.1 0)) (some (LR.ret (false, PUnit.unit))) ((L4_0 k) (x0, x3, iadd IntKind.i64 x5 1, PUnit.unit))))))
    (some (LR.out (x0, x3, PUnit.unit)))
def R4_0 : (liveT inn4_0).D → Option (LR (resT rs4 (refT ps4)).D (liveT out4_0).D) := L4_0 fuel
def F4 : (argT ps4).D → Option (resT rs4 (refT ps4)).D
  | (x0, _) =>
  br (ilt 400 (len x0)) (some (true, PUnit.unit))
    (obnd (F14 (x0, PUnit.unit)) fun y =>
      br (bnot (ieq y.2.1 0))
        (br (ieq (len y.1) 0)
          (br (ieq y.2.1 21)
            (obnd (F15 ([], PUnit.unit)) fun y_1 =>
              br (bnot (seq x0 y_1.1)) (obnd (F16 PUnit.unit) fun y_2 => some (y_2.1, PUnit.unit)) (some (false, PUnit.unit)))
            (some (false, PUnit.unit)))
          (some (false, PUnit.unit)))
        (obnd (R4_0 (x0, y.1, 0, PUnit.unit)) fun r =>
          lcase r some fun b =>
            obnd (F15 (b.2.1, PUnit.unit)) fun y_1 =>
              br (seq y_1.1 b.1) (obnd (F16 PUnit.unit) fun y_2 => some (y_2.1, PUnit.unit)) (some (false, PUnit.unit))))
def con4 : Con := ⟨4, ps4, rs4, F4, 0⟩
def cons4 : List Con := [con14, con15, con16]
def ls4 : Nat → Option (LoopS (resT rs4 (refT ps4)).D) := (fun id => match Nat.beq id 0 with | true => some { inn := inn4_0, out := out4_0, run := R4_0 } | false => none)
theorem L4_0_eq (k : Nat) (x) : L4_0 (k + 1) x = evalL T cons4 Tryd.f4 ps4 rs4 ls4 0 (loopIn (bodyOf Tryd.f4) 0) inn4_0 out4_0 (L4_0 k) x := by
  obtain ⟨x0, x3, x5, u⟩ := x
  kernel_rfl
theorem F4_eq (x) : F4 x = evalF T cons4 Tryd.f4 ps4 rs4 ls4 x := by
  obtain ⟨x0, u⟩ := x
  kernel_rfl
theorem all4 : allLoops (bodyOf Tryd.f4) = [(0, loopIn (bodyOf Tryd.f4) 0)] := by kernel_rfl
theorem ok4 : ConOk Tryd.prog con4 := by
  have h1 : Tryd.prog.follows .mixedOrders = true := by kernel_rfl
  have h2 : Tryd.f4.body = some (bodyOf Tryd.f4) := by kernel_rfl
  have h3 : (Tryd.f4.name == "runtime.NumGoroutine") = false := by kernel_rfl
  have h4 : Tryd.f4.results.toList.length = List.length rs4 := by kernel_rfl
  have h5 : Nat.ble (List.length ps4) Tryd.f4.ntmps = true := by kernel_rfl
  have hT : TabOk Tryd.prog T := tab_ok tab
  have hC : ∀ c ∈ cons4, ConOk Tryd.prog c := by
    intro c hc
    simp only [cons4, List.mem_cons, List.not_mem_nil, or_false] at hc
    rcases hc with rfl | rfl | rfl
    · exact ok14
    · exact ok15
    · exact ok16
  have h6 := Tryd.func4
  have h7 := F4_eq
  have hall := all4
  have h8_0 := L4_0_eq
  generalize Tryd.prog = P at *
  generalize Tryd.f4 = fn at *
  refine func_all (fn := fn) (body := bodyOf fn) (ls := ls4) hT hC h1 h6 h2 h3 h4 h5 F4 h7 fun p hp Ls hLs => ?_
  rw [hall] at hp
  simp only [List.mem_cons, List.not_mem_nil, or_false] at hp
  rcases hp with rfl
  · cases hLs
    exact ⟨L4_0, fun _ => rfl, h8_0, fun x r h => ⟨fuel, h⟩⟩
end W
end Go.SX
