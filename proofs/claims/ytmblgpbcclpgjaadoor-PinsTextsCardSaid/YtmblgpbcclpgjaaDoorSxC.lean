/- Go functions as Lean functions: what the typed evaluator makes of their code; and that they do what these say. Printed by a program of this work. -/
import Derived.Test.YtmblgpbcclpgjaaDoorSxB
set_option maxRecDepth 1000000
set_option linter.unusedVariables false
namespace Go.SX
open Go.Proofs
namespace W
-- spinet/pins . levels
abbrev ps39 : List PK := [.val y4]
abbrev rs39 : List RK := [.val (.arr 6 .bool)]
def F39 : (argT ps39).D → Option (resT rs39 (refT ps39)).D
  | (x0, _) =>
  some ([x0.1, x0.2.1, x0.2.2.1, x0.2.2.2.1, x0.2.2.2.2.1, x0.2.2.2.2.2.1], PUnit.unit)
def con39 : Con := ⟨39, ps39, rs39, F39, 0⟩
def cons39 : List Con := []
def ls39 : Nat → Option (LoopS (resT rs39 (refT ps39)).D) := (fun id => none)
theorem F39_eq (x) : F39 x = evalF T cons39 Tryd.f39 ps39 rs39 ls39 x := by
  obtain ⟨x0, u⟩ := x
  kernel_rfl
theorem all39 : allLoops (bodyOf Tryd.f39) = [] := by kernel_rfl
theorem ok39 : ConOk Tryd.prog con39 := by
  have h1 : Tryd.prog.follows .mixedOrders = true := by kernel_rfl
  have h2 : Tryd.f39.body = some (bodyOf Tryd.f39) := by kernel_rfl
  have h3 : (Tryd.f39.name == "runtime.NumGoroutine") = false := by kernel_rfl
  have h4 : Tryd.f39.results.toList.length = List.length rs39 := by kernel_rfl
  have h5 : Nat.ble (List.length ps39) Tryd.f39.ntmps = true := by kernel_rfl
  have hT : TabOk Tryd.prog T := tab_ok tab
  have hC : ∀ c ∈ cons39, ConOk Tryd.prog c := fun c hc => by cases hc
  have h6 := Tryd.func39
  have h7 := F39_eq
  have hall := all39
  generalize Tryd.prog = P at *
  generalize Tryd.f39 = fn at *
  refine func_all (fn := fn) (body := bodyOf fn) (ls := ls39) hT hC h1 h6 h2 h3 h4 h5 F39 h7 fun p hp Ls hLs => ?_
  rw [hall] at hp
  cases hp
-- spinet/pins . Word
abbrev ps18 : List PK := [.val y4]
abbrev rs18 : List RK := [.val .str]
def inn18_0 : List LK := [.dat 3 .str, .dat 7 (.arr 6 .bool), .dat 8 (.int .i64)]
def out18_0 : List LK := [.dat 3 .str]
def L18_0 : Nat → (liveT inn18_0).D → Option (LR (resT rs18 (refT ps18)).D (liveT out18_0).D)
  | 0, _ => none
  | k + 1, (x3, x7, x8, _) =>
  br (ilt x8 6)
    (chk (inb x8 6)
      (br (rd Ty.bool x7 x8)
        (chk (inp x8 (iadd IntKind.i64 x8 1) (len [82, 78, 70, 73, 72, 81]))
          (chk (fits x3 (part ([82, 78, 70, 73, 72, 81] : List Int) x8 (iadd IntKind.i64 x8 1)))
            ((L18_0 k) (app x3 (part ([82, 78, 70, 73, 72, 81] : List Int) x8 (iadd IntKind.i64 x8 1)), x7, iadd IntKind.i64 x8 1, PUnit.unit))))
        ((L18_0 k) (x3, x7, iadd IntKind.i64 x8 1, PUnit.unit))))
    (some (LR.out (x3, PUnit.unit)))
def R18_0 : (liveT inn18_0).D → Option (LR (resT rs18 (refT ps18)).D (liveT out18_0).D) := L18_0 fuel
def F18 : (argT ps18).D → Option (resT rs18 (refT ps18)).D
  | (x0, _) =>
  obnd (F39 (x0, PUnit.unit)) fun y =>
    obnd (R18_0 ([], y.1, 0, PUnit.unit)) fun r => lcase r some fun b => br (seq b.1 []) (some ([46], PUnit.unit)) (some (b.1, PUnit.unit))
def con18 : Con := ⟨18, ps18, rs18, F18, 0⟩
def cons18 : List Con := [con39]
def ls18 : Nat → Option (LoopS (resT rs18 (refT ps18)).D) := (fun id => match Nat.beq id 0 with | true => some { inn := inn18_0, out := out18_0, run := R18_0 } | false => none)
theorem L18_0_eq (k : Nat) (x) : L18_0 (k + 1) x = evalL T cons18 Tryd.f18 ps18 rs18 ls18 0 (loopIn (bodyOf Tryd.f18) 0) inn18_0 out18_0 (L18_0 k) x := by
  obtain ⟨x3, x7, x8, u⟩ := x
  kernel_rfl
theorem F18_eq (x) : F18 x = evalF T cons18 Tryd.f18 ps18 rs18 ls18 x := by
  obtain ⟨x0, u⟩ := x
  kernel_rfl
theorem all18 : allLoops (bodyOf Tryd.f18) = [(0, loopIn (bodyOf Tryd.f18) 0)] := by kernel_rfl
theorem ok18 : ConOk Tryd.prog con18 := by
  have h1 : Tryd.prog.follows .mixedOrders = true := by kernel_rfl
  have h2 : Tryd.f18.body = some (bodyOf Tryd.f18) := by kernel_rfl
  have h3 : (Tryd.f18.name == "runtime.NumGoroutine") = false := by kernel_rfl
  have h4 : Tryd.f18.results.toList.length = List.length rs18 := by kernel_rfl
  have h5 : Nat.ble (List.length ps18) Tryd.f18.ntmps = true := by kernel_rfl
  have hT : TabOk Tryd.prog T := tab_ok tab
  have hC : ∀ c ∈ cons18, ConOk Tryd.prog c := by
    intro c hc
    simp only [cons18, List.mem_cons, List.not_mem_nil, or_false] at hc
    rcases hc with rfl
    · exact ok39
  have h6 := Tryd.func18
  have h7 := F18_eq
  have hall := all18
  have h8_0 := L18_0_eq
  generalize Tryd.prog = P at *
  generalize Tryd.f18 = fn at *
  refine func_all (fn := fn) (body := bodyOf fn) (ls := ls18) hT hC h1 h6 h2 h3 h4 h5 F18 h7 fun p hp Ls hLs => ?_
  rw [hall] at hp
  simp only [List.mem_cons, List.not_mem_nil, or_false] at hp
  rcases hp with rfl
  · cases hLs
    exact ⟨L18_0, fun _ => rfl, h8_0, fun x r h => ⟨fuel, h⟩⟩
-- strings . IndexByte
abbrev ps38 : List PK := [.val .str, .val (.int .u8)]
abbrev rs38 : List RK := [.val (.int .i64)]
def F38 : (argT ps38).D → Option (resT rs38 (refT ps38)).D
  | (x0, x1, _) =>
  obnd (F59 (x0, x1, PUnit.unit)) fun y => some (y.1, PUnit.unit)
def con38 : Con := ⟨38, ps38, rs38, F38, 0⟩
def cons38 : List Con := [con59]
def ls38 : Nat → Option (LoopS (resT rs38 (refT ps38)).D) := (fun id => none)
theorem F38_eq (x) : F38 x = evalF T cons38 Tryd.f38 ps38 rs38 ls38 x := by
  obtain ⟨x0, x1, u⟩ := x
  kernel_rfl
theorem all38 : allLoops (bodyOf Tryd.f38) = [] := by kernel_rfl
theorem ok38 : ConOk Tryd.prog con38 := by
  have h1 : Tryd.prog.follows .mixedOrders = true := by kernel_rfl
  have h2 : Tryd.f38.body = some (bodyOf Tryd.f38) := by kernel_rfl
  have h3 : (Tryd.f38.name == "runtime.NumGoroutine") = false := by kernel_rfl
  have h4 : Tryd.f38.results.toList.length = List.length rs38 := by kernel_rfl
  have h5 : Nat.ble (List.length ps38) Tryd.f38.ntmps = true := by kernel_rfl
  have hT : TabOk Tryd.prog T := tab_ok tab
  have hC : ∀ c ∈ cons38, ConOk Tryd.prog c := by
    intro c hc
    simp only [cons38, List.mem_cons, List.not_mem_nil, or_false] at hc
    rcases hc with rfl
    · exact ok59
  have h6 := Tryd.func38
  have h7 := F38_eq
  have hall := all38
  generalize Tryd.prog = P at *
  generalize Tryd.f38 = fn at *
  refine func_all (fn := fn) (body := bodyOf fn) (ls := ls38) hT hC h1 h6 h2 h3 h4 h5 F38 h7 fun p hp Ls hLs => ?_
  rw [hall] at hp
  cases hp
-- spinet/pins . One
abbrev ps17 : List PK := [.val .str]
abbrev rs17 : List RK := [.val y4, .val .bool]
def inn17_0 : List LK := [.dat 0 .str, .dat 7 (.int .i64), .obj 2 y4, .obj 4 (.arr 6 .bool)]
def out17_0 : List LK := [.dat 0 .str, .obj 2 y4, .obj 4 (.arr 6 .bool)]
def L17_0 : Nat → (liveT inn17_0).D → Option (LR (resT rs17 (refT ps17)).D (liveT out17_0).D)
  | 0, _ => none
  | k + 1, (x0, x7, x2, x4, _) =>
  br (ilt x7 6)
    (chk (inb x7 (len [82, 78, 70, 73, 72, 81]))
      (obnd (F38 (x0, rd (Ty.int IntKind.u8) [82, 78, 70, 73, 72, 81] x7, PUnit.unit)) fun y =>
        chk (inb x7 6) ((L17_0 k) (x0, iadd IntKind.i64 x7 1, x2, upd x4 (Int.ofNat (tn x7)) (ile 0 y.1), PUnit.unit))))
    (some (LR.out (x0, x2, x4, PUnit.unit)))
def R17_0 : (liveT inn17_0).D → Option (LR (resT rs17 (refT ps17)).D (liveT out17_0).D) := L17_0 fuel
def F17 : (argT ps17).D → Option (resT rs17 (refT ps17)).D
  | (x0, _) =>
  obnd (R17_0 (x0, 0, (false, false, false, false, false, false, PUnit.unit), [false, false, false, false, false, false], PUnit.unit)) fun r =>
    lcase r some fun b =>
      chk (inb 0 6)
        (chk (inb 1 6)
          (chk (inb 2 6)
            (chk (inb 3 6)
              (chk (inb 4 6)
                (chk (inb 5 6)
                  (obnd
                    (F18
                      ((rd Ty.bool b.2.2.1 (Int.ofNat (tn 0)), rd Ty.bool b.2.2.1 (Int.ofNat (tn 1)), rd Ty.bool b.2.2.1 (Int.ofNat (tn 2)),
                          rd Ty.bool b.2.2.1 (Int.ofNat (tn 3)), rd Ty.bool b.2.2.1 (Int.ofNat (tn 4)), rd Ty.bool b.2.2.1 (Int.ofNat (tn 5)),
                          PUnit.unit),
                        PUnit.unit))
                    fun y =>
                    br (bnot (seq y.1 b.1)) (some ((false, false, false, false, false, false, PUnit.unit), false, PUnit.unit))
                      (some
                        ((rd Ty.bool b.2.2.1 (Int.ofNat (tn 0)), rd Ty.bool b.2.2.1 (Int.ofNat (tn 1)), rd Ty.bool b.2.2.1 (Int.ofNat (tn 2)),
                            rd Ty.bool b.2.2.1 (Int.ofNat (tn 3)), rd Ty.bool b.2.2.1 (Int.ofNat (tn 4)), rd Ty.bool b.2.2.1 (Int.ofNat (tn 5)),
                            PUnit.unit),
                          true, PUnit.unit))))))))
def con17 : Con := ⟨17, ps17, rs17, F17, 0⟩
def cons17 : List Con := [con18, con38]
def ls17 : Nat → Option (LoopS (resT rs17 (refT ps17)).D) := (fun id => match Nat.beq id 0 with | true => some { inn := inn17_0, out := out17_0, run := R17_0 } | false => none)
theorem L17_0_eq (k : Nat) (x) : L17_0 (k + 1) x = evalL T cons17 Tryd.f17 ps17 rs17 ls17 0 (loopIn (bodyOf Tryd.f17) 0) inn17_0 out17_0 (L17_0 k) x := by
  obtain ⟨x0, x7, x2, x4, u⟩ := x
  kernel_rfl
theorem F17_eq (x) : F17 x = evalF T cons17 Tryd.f17 ps17 rs17 ls17 x := by
  obtain ⟨x0, u⟩ := x
  kernel_rfl
theorem all17 : allLoops (bodyOf Tryd.f17) = [(0, loopIn (bodyOf Tryd.f17) 0)] := by kernel_rfl
theorem ok17 : ConOk Tryd.prog con17 := by
  have h1 : Tryd.prog.follows .mixedOrders = true := by kernel_rfl
  have h2 : Tryd.f17.body = some (bodyOf Tryd.f17) := by kernel_rfl
  have h3 : (Tryd.f17.name == "runtime.NumGoroutine") = false := by kernel_rfl
  have h4 : Tryd.f17.results.toList.length = List.length rs17 := by kernel_rfl
  have h5 : Nat.ble (List.length ps17) Tryd.f17.ntmps = true := by kernel_rfl
  have hT : TabOk Tryd.prog T := tab_ok tab
  have hC : ∀ c ∈ cons17, ConOk Tryd.prog c := by
    intro c hc
    simp only [cons17, List.mem_cons, List.not_mem_nil, or_false] at hc
    rcases hc with rfl | rfl
    · exact ok18
    · exact ok38
  have h6 := Tryd.func17
  have h7 := F17_eq
  have hall := all17
  have h8_0 := L17_0_eq
  generalize Tryd.prog = P at *
  generalize Tryd.f17 = fn at *
  refine func_all (fn := fn) (body := bodyOf fn) (ls := ls17) hT hC h1 h6 h2 h3 h4 h5 F17 h7 fun p hp Ls hLs => ?_
  rw [hall] at hp
  simp only [List.mem_cons, List.not_mem_nil, or_false] at hp
  rcases hp with rfl
  · cases hLs
    exact ⟨L17_0, fun _ => rfl, h8_0, fun x r h => ⟨fuel, h⟩⟩
-- spinet/spinetref31 . Word
abbrev ps19 : List PK := [.val y4]
abbrev rs19 : List RK := [.val .str]
def inn19_0 : List LK := [.dat 4 .str, .dat 5 (.int .i64), .obj 3 (.arr 6 .bool)]
def out19_0 : List LK := [.dat 4 .str]
def L19_0 : Nat → (liveT inn19_0).D → Option (LR (resT rs19 (refT ps19)).D (liveT out19_0).D)
  | 0, _ => none
  | k + 1, (x4, x5, x3, _) =>
  br (ilt x5 6)
    (chk (inb x5 6)
      (br (rd Ty.bool x3 (Int.ofNat (tn x5)))
        (chk (inp x5 (iadd IntKind.i64 x5 1) (len [82, 78, 70, 73, 72, 81]))
          (chk (fits x4 (part ([82, 78, 70, 73, 72, 81] : List Int) x5 (iadd IntKind.i64 x5 1)))
            ((L19_0 k) (app x4 (part ([82, 78, 70, 73, 72, 81] : List Int) x5 (iadd IntKind.i64 x5 1)), iadd IntKind.i64 x5 1, x3, PUnit.unit))))
        ((L19_0 k) (x4, iadd IntKind.i64 x5 1, x3, PUnit.unit))))
    (some (LR.out (x4, PUnit.unit)))
def R19_0 : (liveT inn19_0).D → Option (LR (resT rs19 (refT ps19)).D (liveT out19_0).D) := L19_0 fuel
def F19 : (argT ps19).D → Option (resT rs19 (refT ps19)).D
  | (x0, _) =>
  obnd (R19_0 ([], 0, [x0.1, x0.2.1, x0.2.2.1, x0.2.2.2.1, x0.2.2.2.2.1, x0.2.2.2.2.2.1], PUnit.unit)) fun r =>
    lcase r some fun b => br (seq b.1 []) (some ([46], PUnit.unit)) (some (b.1, PUnit.unit))
def con19 : Con := ⟨19, ps19, rs19, F19, 0⟩
def cons19 : List Con := []
def ls19 : Nat → Option (LoopS (resT rs19 (refT ps19)).D) := (fun id => match Nat.beq id 0 with | true => some { inn := inn19_0, out := out19_0, run := R19_0 } | false => none)
theorem L19_0_eq (k : Nat) (x) : L19_0 (k + 1) x = evalL T cons19 Tryd.f19 ps19 rs19 ls19 0 (loopIn (bodyOf Tryd.f19) 0) inn19_0 out19_0 (L19_0 k) x := by
  obtain ⟨x4, x5, x3, u⟩ := x
  kernel_rfl
theorem F19_eq (x) : F19 x = evalF T cons19 Tryd.f19 ps19 rs19 ls19 x := by
  obtain ⟨x0, u⟩ := x
  kernel_rfl
theorem all19 : allLoops (bodyOf Tryd.f19) = [(0, loopIn (bodyOf Tryd.f19) 0)] := by kernel_rfl
theorem ok19 : ConOk Tryd.prog con19 := by
  have h1 : Tryd.prog.follows .mixedOrders = true := by kernel_rfl
  have h2 : Tryd.f19.body = some (bodyOf Tryd.f19) := by kernel_rfl
  have h3 : (Tryd.f19.name == "runtime.NumGoroutine") = false := by kernel_rfl
  have h4 : Tryd.f19.results.toList.length = List.length rs19 := by kernel_rfl
  have h5 : Nat.ble (List.length ps19) Tryd.f19.ntmps = true := by kernel_rfl
  have hT : TabOk Tryd.prog T := tab_ok tab
  have hC : ∀ c ∈ cons19, ConOk Tryd.prog c := fun c hc => by cases hc
  have h6 := Tryd.func19
  have h7 := F19_eq
  have hall := all19
  have h8_0 := L19_0_eq
  generalize Tryd.prog = P at *
  generalize Tryd.f19 = fn at *
  refine func_all (fn := fn) (body := bodyOf fn) (ls := ls19) hT hC h1 h6 h2 h3 h4 h5 F19 h7 fun p hp Ls hLs => ?_
  rw [hall] at hp
  simp only [List.mem_cons, List.not_mem_nil, or_false] at hp
  rcases hp with rfl
  · cases hLs
    exact ⟨L19_0, fun _ => rfl, h8_0, fun x r h => ⟨fuel, h⟩⟩
-- spinet/digit . sign
abbrev ps60 : List PK := [.val (.int .u8)]
abbrev rs60 : List RK := [.val (.int .u8)]
def F60 : (argT ps60).D → Option (resT rs60 (refT ps60)).D
  | (x0, _) =>
  br (ilt x0 10) (some (iadd IntKind.u8 48 x0, PUnit.unit)) (some (isub IntKind.u8 (iadd IntKind.u8 65 x0) 10, PUnit.unit))
def con60 : Con := ⟨60, ps60, rs60, F60, 0⟩
def cons60 : List Con := []
def ls60 : Nat → Option (LoopS (resT rs60 (refT ps60)).D) := (fun id => none)
theorem F60_eq (x) : F60 x = evalF T cons60 Tryd.f60 ps60 rs60 ls60 x := by
  obtain ⟨x0, u⟩ := x
  kernel_rfl
theorem all60 : allLoops (bodyOf Tryd.f60) = [] := by kernel_rfl
theorem ok60 : ConOk Tryd.prog con60 := by
  have h1 : Tryd.prog.follows .mixedOrders = true := by kernel_rfl
  have h2 : Tryd.f60.body = some (bodyOf Tryd.f60) := by kernel_rfl
  have h3 : (Tryd.f60.name == "runtime.NumGoroutine") = false := by kernel_rfl
  have h4 : Tryd.f60.results.toList.length = List.length rs60 := by kernel_rfl
  have h5 : Nat.ble (List.length ps60) Tryd.f60.ntmps = true := by kernel_rfl
  have hT : TabOk Tryd.prog T := tab_ok tab
  have hC : ∀ c ∈ cons60, ConOk Tryd.prog c := fun c hc => by cases hc
  have h6 := Tryd.func60
  have h7 := F60_eq
  have hall := all60
  generalize Tryd.prog = P at *
  generalize Tryd.f60 = fn at *
  refine func_all (fn := fn) (body := bodyOf fn) (ls := ls60) hT hC h1 h6 h2 h3 h4 h5 F60 h7 fun p hp Ls hLs => ?_
  rw [hall] at hp
  cases hp
-- spinet/digit . Dec
abbrev ps40 : List PK := [.val (.int .u64)]
abbrev rs40 : List RK := [.val .str]
def inn40_0 : List LK := [.dat 0 (.int .u64), .dat 4 (.int .i64), .obj 3 (.arr 20 (.int .u8))]
def out40_0 : List LK := [.dat 4 (.int .i64), .obj 3 (.arr 20 (.int .u8))]
def L40_0 : Nat → (liveT inn40_0).D → Option (LR (resT rs40 (refT ps40)).D (liveT out40_0).D)
  | 0, _ => none
  | k + 1, (x0, x4, x3, _) =>
  br (ilt 0 x0)
    (chk (bnot (ieq 10 0))
      (obnd (F60 (iconv IntKind.u8 (irem IntKind.u64 x0 10), PUnit.unit)) fun y =>
        chk (inb (isub IntKind.i64 x4 1) 20)
          (chk (bnot (ieq 10 0))
            ((L40_0 k) (iquo IntKind.u64 x0 10, isub IntKind.i64 x4 1, upd x3 (Int.ofNat (tn (isub IntKind.i64 x4 1))) y.1, PUnit.unit)))))
    (br (ieq x4 20)
      (chk (bnot (ieq 10 0))
        (obnd (F60 (iconv IntKind.u8 (irem IntKind.u64 x0 10), PUnit.unit)) fun y =>
          chk (inb (isub IntKind.i64 x4 1) 20)
            (chk (bnot (ieq 10 0))
              ((L40_0 k) (iquo IntKind.u64 x0 10, isub IntKind.i64 x4 1, upd x3 (Int.ofNat (tn (isub IntKind.i64 x4 1))) y.1, PUnit.unit)))))
      (some (LR.out (x4, x3, PUnit.unit))))
def R40_0 : (liveT inn40_0).D → Option (LR (resT rs40 (refT ps40)).D (liveT out40_0).D) := L40_0 fuel
def F40 : (argT ps40).D → Option (resT rs40 (refT ps40)).D
  | (x0, _) =>
  obnd (R40_0 (x0, 20, [0, 0, 0, 0, 0, 0, 0, 0, 0, 0, 0, 0, 0, 0, 0, 0, 0, 0, 0, 0], PUnit.unit)) fun r =>
    lcase r some fun b => chk (inp b.1 20 20) (some (part b.2.1 b.1 20, PUnit.unit))
def con40 : Con := ⟨40, ps40, rs40, F40, 0⟩
def cons40 : List Con := [con60]
def ls40 : Nat → Option (LoopS (resT rs40 (refT ps40)).D) := (fun id => match Nat.beq id 0 with | true => some { inn := inn40_0, out := out40_0, run := R40_0 } | false => none)
theorem L40_0_eq (k : Nat) (x) : L40_0 (k + 1) x = evalL T cons40 Tryd.f40 ps40 rs40 ls40 0 (loopIn (bodyOf Tryd.f40) 0) inn40_0 out40_0 (L40_0 k) x := by
  obtain ⟨x0, x4, x3, u⟩ := x
  kernel_rfl
theorem F40_eq (x) : F40 x = evalF T cons40 Tryd.f40 ps40 rs40 ls40 x := by
  obtain ⟨x0, u⟩ := x
  kernel_rfl
theorem all40 : allLoops (bodyOf Tryd.f40) = [(0, loopIn (bodyOf Tryd.f40) 0)] := by kernel_rfl
theorem ok40 : ConOk Tryd.prog con40 := by
  have h1 : Tryd.prog.follows .mixedOrders = true := by kernel_rfl
  have h2 : Tryd.f40.body = some (bodyOf Tryd.f40) := by kernel_rfl
  have h3 : (Tryd.f40.name == "runtime.NumGoroutine") = false := by kernel_rfl
  have h4 : Tryd.f40.results.toList.length = List.length rs40 := by kernel_rfl
  have h5 : Nat.ble (List.length ps40) Tryd.f40.ntmps = true := by kernel_rfl
  have hT : TabOk Tryd.prog T := tab_ok tab
  have hC : ∀ c ∈ cons40, ConOk Tryd.prog c := by
    intro c hc
    simp only [cons40, List.mem_cons, List.not_mem_nil, or_false] at hc
    rcases hc with rfl
    · exact ok60
  have h6 := Tryd.func40
  have h7 := F40_eq
  have hall := all40
  have h8_0 := L40_0_eq
  generalize Tryd.prog = P at *
  generalize Tryd.f40 = fn at *
  refine func_all (fn := fn) (body := bodyOf fn) (ls := ls40) hT hC h1 h6 h2 h3 h4 h5 F40 h7 fun p hp Ls hLs => ?_
  rw [hall] at hp
  simp only [List.mem_cons, List.not_mem_nil, or_false] at hp
  rcases hp with rfl
  · cases hLs
    exact ⟨L40_0, fun _ => rfl, h8_0, fun x r h => ⟨fuel, h⟩⟩
-- spinet/pins . Text
abbrev ps20 : List PK := [.val (.slice y4)]
abbrev rs20 : List RK := [.val .str]
def inn20_2 : List LK := [.dat 0 (.slice y4), .dat 4 (.int .i64), .dat 5 (.int .i64), .own 3 .str true true]
def out20_2 : List LK := [.dat 0 (.slice y4), .dat 4 (.int .i64), .dat 5 (.int .i64), .own 3 .str true true]
def inn20_0 : List LK := [.dat 0 (.slice y4), .dat 4 (.int .i64), .own 3 .str true true]
def out20_0 : List LK := [.own 3 .str true true]
def L20_2 : Nat → (liveT inn20_2).D → Option (LR (resT rs20 (refT ps20)).D (liveT out20_2).D)
  | 0, _ => none
  | k + 1, (x0, x4, x5, x3, _) =>
  br (ilt (iadd IntKind.i64 x4 x5) (len x0))
    (chk (inb (iadd IntKind.i64 x4 x5) (len x0))
      (chk (inb x4 (len x0))
        (br (eqD y4 (rd y4 x0 (iadd IntKind.i64 x4 x5)) (rd y4 x0 x4)) ((L20_2 k) (x0, x4, iadd IntKind.i64 x5 1, x3, PUnit.unit))
          (some (LR.out (x0, x4, x5, x3, PUnit.unit))))))
    (some (LR.out (x0, x4, x5, x3, PUnit.unit)))
def R20_2 : (liveT inn20_2).D → Option (LR (resT rs20 (refT ps20)).D (liveT out20_2).D) := L20_2 fuel
def L20_0 : Nat → (liveT inn20_0).D → Option (LR (resT rs20 (refT ps20)).D (liveT out20_0).D)
  | 0, _ => none
  | k + 1, (x0, x4, x3, _) =>
  br (ilt x4 (len x0))
    (obnd (R20_2 (x0, x4, 1, x3, PUnit.unit)) fun r =>
      lcase r (fun r_1 => some (LR.ret r_1)) fun b =>
        chk (inb b.2.1 (len b.1))
          (obnd (F18 (rd y4 b.1 b.2.1, PUnit.unit)) fun y =>
            br (ilt 1 b.2.2.1)
              (obnd (F40 (iconv IntKind.u64 b.2.2.1, PUnit.unit)) fun y_1 =>
                chk (fits [42] y_1.1)
                  (chk (fits y.1 (app [42] y_1.1))
                    (chk (fits b.2.2.2.1 [app y.1 (app [42] y_1.1)])
                      ((L20_0 k) (b.1, iadd IntKind.i64 b.2.1 b.2.2.1, app b.2.2.2.1 [app y.1 (app [42] y_1.1)], PUnit.unit)))))
              (chk (fits b.2.2.2.1 [y.1]) ((L20_0 k) (b.1, iadd IntKind.i64 b.2.1 b.2.2.1, app b.2.2.2.1 [y.1], PUnit.unit)))))
    (some (LR.out (x3, PUnit.unit)))
def R20_0 : (liveT inn20_0).D → Option (LR (resT rs20 (refT ps20)).D (liveT out20_0).D) := L20_0 fuel
def F20 : (argT ps20).D → Option (resT rs20 (refT ps20)).D
  | (x0, _) =>
  obnd (R20_0 (x0, 0, [], PUnit.unit)) fun r => lcase r some fun b => obnd (F41 (b.1, [32], PUnit.unit)) fun y => some (y.1, PUnit.unit)
def con20 : Con := ⟨20, ps20, rs20, F20, 0⟩
def cons20 : List Con := [con18, con40, con41]
def ls20 : Nat → Option (LoopS (resT rs20 (refT ps20)).D) := (fun id => match Nat.beq id 2 with | true => some { inn := inn20_2, out := out20_2, run := R20_2 } | false => match Nat.beq id 0 with | true => some { inn := inn20_0, out := out20_0, run := R20_0 } | false => none)
theorem L20_2_eq (k : Nat) (x) : L20_2 (k + 1) x = evalL T cons20 Tryd.f20 ps20 rs20 ls20 2 (loopIn (bodyOf Tryd.f20) 2) inn20_2 out20_2 (L20_2 k) x := by
  obtain ⟨x0, x4, x5, x3, u⟩ := x
  kernel_rfl
theorem L20_0_eq (k : Nat) (x) : L20_0 (k + 1) x = evalL T cons20 Tryd.f20 ps20 rs20 ls20 0 (loopIn (bodyOf Tryd.f20) 0) inn20_0 out20_0 (L20_0 k) x := by
  obtain ⟨x0, x4, x3, u⟩ := x
  kernel_rfl
theorem F20_eq (x) : F20 x = evalF T cons20 Tryd.f20 ps20 rs20 ls20 x := by
  obtain ⟨x0, u⟩ := x
  kernel_rfl
theorem all20 : allLoops (bodyOf Tryd.f20) = [(0, loopIn (bodyOf Tryd.f20) 0), (2, loopIn (bodyOf Tryd.f20) 2)] := by kernel_rfl
theorem ok20 : ConOk Tryd.prog con20 := by
  have h1 : Tryd.prog.follows .mixedOrders = true := by kernel_rfl
  have h2 : Tryd.f20.body = some (bodyOf Tryd.f20) := by kernel_rfl
  have h3 : (Tryd.f20.name == "runtime.NumGoroutine") = false := by kernel_rfl
  have h4 : Tryd.f20.results.toList.length = List.length rs20 := by kernel_rfl
  have h5 : Nat.ble (List.length ps20) Tryd.f20.ntmps = true := by kernel_rfl
  have hT : TabOk Tryd.prog T := tab_ok tab
  have hC : ∀ c ∈ cons20, ConOk Tryd.prog c := by
    intro c hc
    simp only [cons20, List.mem_cons, List.not_mem_nil, or_false] at hc
    rcases hc with rfl | rfl | rfl
    · exact ok18
    · exact ok40
    · exact ok41
  have h6 := Tryd.func20
  have h7 := F20_eq
  have hall := all20
  have h8_2 := L20_2_eq
  have h8_0 := L20_0_eq
  generalize Tryd.prog = P at *
  generalize Tryd.f20 = fn at *
  refine func_all (fn := fn) (body := bodyOf fn) (ls := ls20) hT hC h1 h6 h2 h3 h4 h5 F20 h7 fun p hp Ls hLs => ?_
  rw [hall] at hp
  simp only [List.mem_cons, List.not_mem_nil, or_false] at hp
  rcases hp with rfl | rfl
  · cases hLs
    exact ⟨L20_0, fun _ => rfl, h8_0, fun x r h => ⟨fuel, h⟩⟩
  · cases hLs
    exact ⟨L20_2, fun _ => rfl, h8_2, fun x r h => ⟨fuel, h⟩⟩
-- internal/stringslite . Cut
abbrev ps74 : List PK := [.val .str, .val .str]
abbrev rs74 : List RK := [.val .str, .val .str, .val .bool]
def F74 : (argT ps74).D → Option (resT rs74 (refT ps74)).D
  | (x0, x1, _) =>
  obnd (F75 (x0, x1, PUnit.unit)) fun y =>
    br (ile 0 y.1)
      (chk (inp 0 y.1 (len x0))
        (chk (inp (iadd IntKind.i64 y.1 (len x1)) (len x0) (len x0))
          (some (part x0 0 y.1, part x0 (iadd IntKind.i64 y.1 (len x1)) (len x0), true, PUnit.unit))))
      (some (x0, [], false, PUnit.unit))
def con74 : Con := ⟨74, ps74, rs74, F74, 0⟩
def cons74 : List Con := [con75]
def ls74 : Nat → Option (LoopS (resT rs74 (refT ps74)).D) := (fun id => none)
theorem F74_eq (x) : F74 x = evalF T cons74 Tryd.f74 ps74 rs74 ls74 x := by
  obtain ⟨x0, x1, u⟩ := x
  kernel_rfl
theorem all74 : allLoops (bodyOf Tryd.f74) = [] := by kernel_rfl
theorem ok74 : ConOk Tryd.prog con74 := by
  have h1 : Tryd.prog.follows .mixedOrders = true := by kernel_rfl
  have h2 : Tryd.f74.body = some (bodyOf Tryd.f74) := by kernel_rfl
  have h3 : (Tryd.f74.name == "runtime.NumGoroutine") = false := by kernel_rfl
  have h4 : Tryd.f74.results.toList.length = List.length rs74 := by kernel_rfl
  have h5 : Nat.ble (List.length ps74) Tryd.f74.ntmps = true := by kernel_rfl
  have hT : TabOk Tryd.prog T := tab_ok tab
  have hC : ∀ c ∈ cons74, ConOk Tryd.prog c := by
    intro c hc
    simp only [cons74, List.mem_cons, List.not_mem_nil, or_false] at hc
    rcases hc with rfl
    · exact ok75
  have h6 := Tryd.func74
  have h7 := F74_eq
  have hall := all74
  generalize Tryd.prog = P at *
  generalize Tryd.f74 = fn at *
  refine func_all (fn := fn) (body := bodyOf fn) (ls := ls74) hT hC h1 h6 h2 h3 h4 h5 F74 h7 fun p hp Ls hLs => ?_
  rw [hall] at hp
  cases hp
-- strings . Cut
abbrev ps61 : List PK := [.val .str, .val .str]
abbrev rs61 : List RK := [.val .str, .val .str, .val .bool]
def F61 : (argT ps61).D → Option (resT rs61 (refT ps61)).D
  | (x0, x1, _) =>
  obnd (F74 (x0, x1, PUnit.unit)) fun y => some (y.1, y.2.1, y.2.2.1, PUnit.unit)
def con61 : Con := ⟨61, ps61, rs61, F61, 0⟩
def cons61 : List Con := [con74]
def ls61 : Nat → Option (LoopS (resT rs61 (refT ps61)).D) := (fun id => none)
theorem F61_eq (x) : F61 x = evalF T cons61 Tryd.f61 ps61 rs61 ls61 x := by
  obtain ⟨x0, x1, u⟩ := x
  kernel_rfl
theorem all61 : allLoops (bodyOf Tryd.f61) = [] := by kernel_rfl
theorem ok61 : ConOk Tryd.prog con61 := by
  have h1 : Tryd.prog.follows .mixedOrders = true := by kernel_rfl
  have h2 : Tryd.f61.body = some (bodyOf Tryd.f61) := by kernel_rfl
  have h3 : (Tryd.f61.name == "runtime.NumGoroutine") = false := by kernel_rfl
  have h4 : Tryd.f61.results.toList.length = List.length rs61 := by kernel_rfl
  have h5 : Nat.ble (List.length ps61) Tryd.f61.ntmps = true := by kernel_rfl
  have hT : TabOk Tryd.prog T := tab_ok tab
  have hC : ∀ c ∈ cons61, ConOk Tryd.prog c := by
    intro c hc
    simp only [cons61, List.mem_cons, List.not_mem_nil, or_false] at hc
    rcases hc with rfl
    · exact ok74
  have h6 := Tryd.func61
  have h7 := F61_eq
  have hall := all61
  generalize Tryd.prog = P at *
  generalize Tryd.f61 = fn at *
  refine func_all (fn := fn) (body := bodyOf fn) (ls := ls61) hT hC h1 h6 h2 h3 h4 h5 F61 h7 fun p hp Ls hLs => ?_
  rw [hall] at hp
  cases hp
-- spinet/pins . count
abbrev ps62 : List PK := [.val .str]
abbrev rs62 : List RK := [.val (.int .i64), .val .bool]
def inn62_0 : List LK := [.dat 0 .str, .dat 4 (.int .i64), .dat 7 (.int .i64), .dat 8 (.int .i64)]
def out62_0 : List LK := [.dat 0 .str, .dat 4 (.int .i64)]
def L62_0 : Nat → (liveT inn62_0).D → Option (LR (resT rs62 (refT ps62)).D (liveT out62_0).D)
  | 0, _ => none
  | k + 1, (x0, x4, x7, x8, _) =>
  br (ilt x8 x7)
    (chk (inb x8 (len x0))
      (br (ilt (rd (Ty.int IntKind.u8) x0 x8) 48) (some (LR.ret (0, false, PUnit.unit)))
        (chk (inb x8 (len x0))
          (br (ilt 57 (rd (Ty.int IntKind.u8) x0 x8)) (some (LR.ret (0, false, PUnit.unit)))
            (chk (inb x8 (len x0))
              ((L62_0 k)
                (x0, imin (iadd IntKind.i64 (imul IntKind.i64 10 x4) (iconv IntKind.i64 (isub IntKind.u8 (rd (Ty.int IntKind.u8) x0 x8) 48))) 4097,
                  x7, iadd IntKind.i64 x8 1, PUnit.unit)))))))
    (some (LR.out (x0, x4, PUnit.unit)))
def R62_0 : (liveT inn62_0).D → Option (LR (resT rs62 (refT ps62)).D (liveT out62_0).D) := L62_0 fuel
def F62 : (argT ps62).D → Option (resT rs62 (refT ps62)).D
  | (x0, _) =>
  obnd (R62_0 (x0, 0, len x0, 0, PUnit.unit)) fun r => lcase r some fun b => some (b.2.1, bnot (seq b.1 []), PUnit.unit)
def con62 : Con := ⟨62, ps62, rs62, F62, 0⟩
def cons62 : List Con := []
def ls62 : Nat → Option (LoopS (resT rs62 (refT ps62)).D) := (fun id => match Nat.beq id 0 with | true => some { inn := inn62_0, out := out62_0, run := R62_0 } | false => none)
theorem L62_0_eq (k : Nat) (x) : L62_0 (k + 1) x = evalL T cons62 Tryd.f62 ps62 rs62 ls62 0 (loopIn (bodyOf Tryd.f62) 0) inn62_0 out62_0 (L62_0 k) x := by
  obtain ⟨x0, x4, x7, x8, u⟩ := x
  kernel_rfl
theorem F62_eq (x) : F62 x = evalF T cons62 Tryd.f62 ps62 rs62 ls62 x := by
  obtain ⟨x0, u⟩ := x
  kernel_rfl
theorem all62 : allLoops (bodyOf Tryd.f62) = [(0, loopIn (bodyOf Tryd.f62) 0)] := by kernel_rfl
theorem ok62 : ConOk Tryd.prog con62 := by
  have h1 : Tryd.prog.follows .mixedOrders = true := by kernel_rfl
  have h2 : Tryd.f62.body = some (bodyOf Tryd.f62) := by kernel_rfl
  have h3 : (Tryd.f62.name == "runtime.NumGoroutine") = false := by kernel_rfl
  have h4 : Tryd.f62.results.toList.length = List.length rs62 := by kernel_rfl
  have h5 : Nat.ble (List.length ps62) Tryd.f62.ntmps = true := by kernel_rfl
  have hT : TabOk Tryd.prog T := tab_ok tab
  have hC : ∀ c ∈ cons62, ConOk Tryd.prog c := fun c hc => by cases hc
  have h6 := Tryd.func62
  have h7 := F62_eq
  have hall := all62
  have h8_0 := L62_0_eq
  generalize Tryd.prog = P at *
  generalize Tryd.f62 = fn at *
  refine func_all (fn := fn) (body := bodyOf fn) (ls := ls62) hT hC h1 h6 h2 h3 h4 h5 F62 h7 fun p hp Ls hLs => ?_
  rw [hall] at hp
  simp only [List.mem_cons, List.not_mem_nil, or_false] at hp
  rcases hp with rfl
  · cases hLs
    exact ⟨L62_0, fun _ => rfl, h8_0, fun x r h => ⟨fuel, h⟩⟩
-- spinet/pins . piece
abbrev ps42 : List PK := [.val .str]
abbrev rs42 : List RK := [.val y4, .val (.int .i64), .val (.int .i64)]
def F42 : (argT ps42).D → Option (resT rs42 (refT ps42)).D
  | (x0, _) =>
  obnd (F61 (x0, [42], PUnit.unit)) fun y =>
    obnd (F17 (y.1, PUnit.unit)) fun y_1 =>
      br (bnot y_1.2.1) (some ((false, false, false, false, false, false, PUnit.unit), 0, 21, PUnit.unit))
        (br (bnot y.2.2.1) (some (y_1.1, 1, 0, PUnit.unit))
          (obnd (F62 (y.2.1, PUnit.unit)) fun y_2 =>
            br (bnot y_2.2.1) (some ((false, false, false, false, false, false, PUnit.unit), 0, 21, PUnit.unit))
              (br (ieq y_2.1 0) (some ((false, false, false, false, false, false, PUnit.unit), 0, 10, PUnit.unit))
                (some (y_1.1, y_2.1, 0, PUnit.unit)))))
def con42 : Con := ⟨42, ps42, rs42, F42, 0⟩
def cons42 : List Con := [con17, con61, con62]
def ls42 : Nat → Option (LoopS (resT rs42 (refT ps42)).D) := (fun id => none)
theorem F42_eq (x) : F42 x = evalF T cons42 Tryd.f42 ps42 rs42 ls42 x := by
  obtain ⟨x0, u⟩ := x
  kernel_rfl
theorem all42 : allLoops (bodyOf Tryd.f42) = [] := by kernel_rfl
theorem ok42 : ConOk Tryd.prog con42 := by
  have h1 : Tryd.prog.follows .mixedOrders = true := by kernel_rfl
  have h2 : Tryd.f42.body = some (bodyOf Tryd.f42) := by kernel_rfl
  have h3 : (Tryd.f42.name == "runtime.NumGoroutine") = false := by kernel_rfl
  have h4 : Tryd.f42.results.toList.length = List.length rs42 := by kernel_rfl
  have h5 : Nat.ble (List.length ps42) Tryd.f42.ntmps = true := by kernel_rfl
  have hT : TabOk Tryd.prog T := tab_ok tab
  have hC : ∀ c ∈ cons42, ConOk Tryd.prog c := by
    intro c hc
    simp only [cons42, List.mem_cons, List.not_mem_nil, or_false] at hc
    rcases hc with rfl | rfl | rfl
    · exact ok17
    · exact ok61
    · exact ok62
  have h6 := Tryd.func42
  have h7 := F42_eq
  have hall := all42
  generalize Tryd.prog = P at *
  generalize Tryd.f42 = fn at *
  refine func_all (fn := fn) (body := bodyOf fn) (ls := ls42) hT hC h1 h6 h2 h3 h4 h5 F42 h7 fun p hp Ls hLs => ?_
  rw [hall] at hp
  cases hp
-- spinet/pins . Parse
abbrev ps21 : List PK := [.val .str]
abbrev rs21 : List RK := [.val (.slice y4), .val (.int .i64)]
def inn21_2 : List LK := [.dat 11 (.slice .str), .dat 12 (.int .i64), .dat 13 (.int .i64), .dat 33 (.int .i64), .dat 34 (.int .i64), .own 4 y4 true true, .obj 7 y4]
def out21_2 : List LK := [.dat 11 (.slice .str), .dat 12 (.int .i64), .dat 13 (.int .i64), .own 4 y4 true true]
def inn21_0 : List LK := [.dat 11 (.slice .str), .dat 12 (.int .i64), .dat 13 (.int .i64), .own 4 y4 true true]
def out21_0 : List LK := [.own 4 y4 true true]
def L21_2 : Nat → (liveT inn21_2).D → Option (LR (resT rs21 (refT ps21)).D (liveT out21_2).D)
  | 0, _ => none
  | k + 1, (x11, x12, x13, x33, x34, x4, x7, _) =>
  br (ilt x34 x33) (chk (fits x4 [x7]) ((L21_2 k) (x11, x12, x13, x33, iadd IntKind.i64 x34 1, app x4 [x7], x7, PUnit.unit)))
    (some (LR.out (x11, x12, x13, x4, PUnit.unit)))
def R21_2 : (liveT inn21_2).D → Option (LR (resT rs21 (refT ps21)).D (liveT out21_2).D) := L21_2 fuel
def L21_0 : Nat → (liveT inn21_0).D → Option (LR (resT rs21 (refT ps21)).D (liveT out21_0).D)
  | 0, _ => none
  | k + 1, (x11, x12, x13, x4, _) =>
  br (ilt x13 x12)
    (chk (inb x13 (len x11))
      (br (seq (rd Ty.str x11 x13) []) ((L21_0 k) (x11, x12, iadd IntKind.i64 x13 1, x4, PUnit.unit))
        (obnd (F42 (rd Ty.str x11 x13, PUnit.unit)) fun y =>
          br (bnot (ieq y.2.2.1 0)) (some (LR.ret ([], y.2.2.1, PUnit.unit)))
            (br (ilt (isub IntKind.i64 4096 (len x4)) y.2.1) (some (LR.ret ([], 12, PUnit.unit)))
              (obnd (R21_2 (x11, x12, x13, y.2.1, 0, x4, y.1, PUnit.unit)) fun r =>
                lcase r (fun r_1 => some (LR.ret r_1)) fun b => (L21_0 k) (b.1, b.2.1, iadd IntKind.i64 b.2.2.1 1, b.2.2.2.1, PUnit.unit))))))
    (some (LR.out (x4, PUnit.unit)))
def R21_0 : (liveT inn21_0).D → Option (LR (resT rs21 (refT ps21)).D (liveT out21_0).D) := L21_0 fuel
def F21 : (argT ps21).D → Option (resT rs21 (refT ps21)).D
  | (x0, _) =>
  obnd (F35 (x0, [32], PUnit.unit)) fun y => obnd (R21_0 (y.1, len y.1, 0, [], PUnit.unit)) fun r => lcase r some fun b => some (b.1, 0, PUnit.unit)
def con21 : Con := ⟨21, ps21, rs21, F21, 0⟩
def cons21 : List Con := [con35, con42]
def ls21 : Nat → Option (LoopS (resT rs21 (refT ps21)).D) := (fun id => match Nat.beq id 2 with | true => some { inn := inn21_2, out := out21_2, run := R21_2 } | false => match Nat.beq id 0 with | true => some { inn := inn21_0, out := out21_0, run := R21_0 } | false => none)
theorem L21_2_eq (k : Nat) (x) : L21_2 (k + 1) x = evalL T cons21 Tryd.f21 ps21 rs21 ls21 2 (loopIn (bodyOf Tryd.f21) 2) inn21_2 out21_2 (L21_2 k) x := by
  obtain ⟨x11, x12, x13, x33, x34, x4, x7, u⟩ := x
  kernel_rfl
theorem L21_0_eq (k : Nat) (x) : L21_0 (k + 1) x = evalL T cons21 Tryd.f21 ps21 rs21 ls21 0 (loopIn (bodyOf Tryd.f21) 0) inn21_0 out21_0 (L21_0 k) x := by
  obtain ⟨x11, x12, x13, x4, u⟩ := x
  kernel_rfl
theorem F21_eq (x) : F21 x = evalF T cons21 Tryd.f21 ps21 rs21 ls21 x := by
  obtain ⟨x0, u⟩ := x
  kernel_rfl
theorem all21 : allLoops (bodyOf Tryd.f21) = [(0, loopIn (bodyOf Tryd.f21) 0), (2, loopIn (bodyOf Tryd.f21) 2)] := by kernel_rfl
theorem ok21 : ConOk Tryd.prog con21 := by
  have h1 : Tryd.prog.follows .mixedOrders = true := by kernel_rfl
  have h2 : Tryd.f21.body = some (bodyOf Tryd.f21) := by kernel_rfl
  have h3 : (Tryd.f21.name == "runtime.NumGoroutine") = false := by kernel_rfl
  have h4 : Tryd.f21.results.toList.length = List.length rs21 := by kernel_rfl
  have h5 : Nat.ble (List.length ps21) Tryd.f21.ntmps = true := by kernel_rfl
  have hT : TabOk Tryd.prog T := tab_ok tab
  have hC : ∀ c ∈ cons21, ConOk Tryd.prog c := by
    intro c hc
    simp only [cons21, List.mem_cons, List.not_mem_nil, or_false] at hc
    rcases hc with rfl | rfl
    · exact ok35
    · exact ok42
  have h6 := Tryd.func21
  have h7 := F21_eq
  have hall := all21
  have h8_2 := L21_2_eq
  have h8_0 := L21_0_eq
  generalize Tryd.prog = P at *
  generalize Tryd.f21 = fn at *
  refine func_all (fn := fn) (body := bodyOf fn) (ls := ls21) hT hC h1 h6 h2 h3 h4 h5 F21 h7 fun p hp Ls hLs => ?_
  rw [hall] at hp
  simp only [List.mem_cons, List.not_mem_nil, or_false] at hp
  rcases hp with rfl | rfl
  · cases hLs
    exact ⟨L21_0, fun _ => rfl, h8_0, fun x r h => ⟨fuel, h⟩⟩
  · cases hLs
    exact ⟨L21_2, fun _ => rfl, h8_2, fun x r h => ⟨fuel, h⟩⟩
-- spinet/spinetref02 . Digits
abbrev ps30 : List PK := [.val (.int .u64), .val (.int .u64), .val (.int .i64)]
abbrev rs30 : List RK := [.val .str]
def inn30_0 : List LK := [.dat 0 (.int .u64), .dat 1 (.int .u64), .dat 2 (.int .i64), .dat 7 .str]
def out30_0 : List LK := [.dat 7 .str]
def L30_0 : Nat → (liveT inn30_0).D → Option (LR (resT rs30 (refT ps30)).D (liveT out30_0).D)
  | 0, _ => none
  | k + 1, (x0, x1, x2, x7, _) =>
  br (ilt 0 x0)
    (chk (bnot (ieq x1 0))
      (chk
        (inp (iconv IntKind.i64 (irem IntKind.u64 x0 x1)) (iadd IntKind.i64 (iconv IntKind.i64 (irem IntKind.u64 x0 x1)) 1)
          (len [48, 49, 50, 51, 52, 53, 54, 55, 56, 57, 65, 66, 67, 68, 69, 70]))
        (chk
          (fits
            (part ([48, 49, 50, 51, 52, 53, 54, 55, 56, 57, 65, 66, 67, 68, 69, 70] : List Int) (iconv IntKind.i64 (irem IntKind.u64 x0 x1))
              (iadd IntKind.i64 (iconv IntKind.i64 (irem IntKind.u64 x0 x1)) 1))
            x7)
          (chk (bnot (ieq x1 0))
            ((L30_0 k)
              (iquo IntKind.u64 x0 x1, x1, x2,
                app
                  (part ([48, 49, 50, 51, 52, 53, 54, 55, 56, 57, 65, 66, 67, 68, 69, 70] : List Int) (iconv IntKind.i64 (irem IntKind.u64 x0 x1))
                    (iadd IntKind.i64 (iconv IntKind.i64 (irem IntKind.u64 x0 x1)) 1))
                  x7,
                PUnit.unit))))))
    (br (ilt (len x7) x2)
      (chk (bnot (ieq x1 0))
        (chk
          (inp (iconv IntKind.i64 (irem IntKind.u64 x0 x1)) (iadd IntKind.i64 (iconv IntKind.i64 (irem IntKind.u64 x0 x1)) 1)
            (len [48, 49, 50, 51, 52, 53, 54, 55, 56, 57, 65, 66, 67, 68, 69, 70]))
          (chk
            (fits
              (part ([48, 49, 50, 51, 52, 53, 54, 55, 56, 57, 65, 66, 67, 68, 69, 70] : List Int) (iconv IntKind.i64 (irem IntKind.u64 x0 x1))
                (iadd IntKind.i64 (iconv IntKind.i64 (irem IntKind.u64 x0 x1)) 1))
              x7)
            (chk (bnot (ieq x1 0))
              ((L30_0 k)
                (iquo IntKind.u64 x0 x1, x1, x2,
                  app
                    (part ([48, 49, 50, 51, 52, 53, 54, 55, 56, 57, 65, 66, 67, 68, 69, 70] : List Int) (iconv IntKind.i64 (irem IntKind.u64 x0 x1))
                      (iadd IntKind.i64 (iconv IntKind.i64 (irem IntKind.u64 x0 x1)) 1))
                    x7,
                  PUnit.unit))))))
      (br (seq x7 [])
        (chk (bnot (ieq x1 0))
          (chk
            (inp (iconv IntKind.i64 (irem IntKind.u64 x0 x1)) (iadd IntKind.i64 (iconv IntKind.i64 (irem IntKind.u64 x0 x1)) 1)
              (len [48, 49, 50, 51, 52, 53, 54, 55, 56, 57, 65, 66, 67, 68, 69, 70]))
            (chk
              (fits
                (part ([48, 49, 50, 51, 52, 53, 54, 55, 56, 57, 65, 66, 67, 68, 69, 70] : List Int) (iconv IntKind.i64 (irem IntKind.u64 x0 x1))
                  (iadd IntKind.i64 (iconv IntKind.i64 (irem IntKind.u64 x0 x1)) 1))
                x7)
              (chk (bnot (ieq x1 0))
                ((L30_0 k)
                  (iquo IntKind.u64 x0 x1, x1, x2,
                    app
                      (part ([48, 49, 50, 51, 52, 53, 54, 55, 56, 57, 65, 66, 67, 68, 69, 70] : List Int) (iconv IntKind.i64 (irem IntKind.u64 x0 x1))
                        (iadd IntKind.i64 (iconv IntKind.i64 (irem IntKind.u64 x0 x1)) 1))
                      x7,
                    PUnit.unit))))))
        (some (LR.out (x7, PUnit.unit)))))
def R30_0 : (liveT inn30_0).D → Option (LR (resT rs30 (refT ps30)).D (liveT out30_0).D) := L30_0 fuel
def F30 : (argT ps30).D → Option (resT rs30 (refT ps30)).D
  | (x0, x1, x2, _) =>
  obnd (R30_0 (x0, x1, x2, [], PUnit.unit)) fun r => lcase r some fun b => some (b.1, PUnit.unit)
def con30 : Con := ⟨30, ps30, rs30, F30, 0⟩
def cons30 : List Con := []
def ls30 : Nat → Option (LoopS (resT rs30 (refT ps30)).D) := (fun id => match Nat.beq id 0 with | true => some { inn := inn30_0, out := out30_0, run := R30_0 } | false => none)
theorem L30_0_eq (k : Nat) (x) : L30_0 (k + 1) x = evalL T cons30 Tryd.f30 ps30 rs30 ls30 0 (loopIn (bodyOf Tryd.f30) 0) inn30_0 out30_0 (L30_0 k) x := by
  obtain ⟨x0, x1, x2, x7, u⟩ := x
  kernel_rfl
theorem F30_eq (x) : F30 x = evalF T cons30 Tryd.f30 ps30 rs30 ls30 x := by
  obtain ⟨x0, x1, x2, u⟩ := x
  kernel_rfl
theorem all30 : allLoops (bodyOf Tryd.f30) = [(0, loopIn (bodyOf Tryd.f30) 0)] := by kernel_rfl
theorem ok30 : ConOk Tryd.prog con30 := by
  have h1 : Tryd.prog.follows .mixedOrders = true := by kernel_rfl
  have h2 : Tryd.f30.body = some (bodyOf Tryd.f30) := by kernel_rfl
  have h3 : (Tryd.f30.name == "runtime.NumGoroutine") = false := by kernel_rfl
  have h4 : Tryd.f30.results.toList.length = List.length rs30 := by kernel_rfl
  have h5 : Nat.ble (List.length ps30) Tryd.f30.ntmps = true := by kernel_rfl
  have hT : TabOk Tryd.prog T := tab_ok tab
  have hC : ∀ c ∈ cons30, ConOk Tryd.prog c := fun c hc => by cases hc
  have h6 := Tryd.func30
  have h7 := F30_eq
  have hall := all30
  have h8_0 := L30_0_eq
  generalize Tryd.prog = P at *
  generalize Tryd.f30 = fn at *
  refine func_all (fn := fn) (body := bodyOf fn) (ls := ls30) hT hC h1 h6 h2 h3 h4 h5 F30 h7 fun p hp Ls hLs => ?_
  rw [hall] at hp
  simp only [List.mem_cons, List.not_mem_nil, or_false] at hp
  rcases hp with rfl
  · cases hLs
    exact ⟨L30_0, fun _ => rfl, h8_0, fun x r h => ⟨fuel, h⟩⟩
-- spinet/spinetref31 . Text
abbrev ps22 : List PK := [.val (.slice y4)]
abbrev rs22 : List RK := [.val .str]
def inn22_2 : List LK := [.dat 0 (.slice y4), .dat 3 .str, .dat 4 (.int .i64), .dat 5 (.int .i64)]
def out22_2 : List LK := [.dat 0 (.slice y4), .dat 3 .str, .dat 4 (.int .i64), .dat 5 (.int .i64)]
def inn22_0 : List LK := [.dat 0 (.slice y4), .dat 3 .str, .dat 4 (.int .i64)]
def out22_0 : List LK := [.dat 3 .str]
def L22_2 : Nat → (liveT inn22_2).D → Option (LR (resT rs22 (refT ps22)).D (liveT out22_2).D)
  | 0, _ => none
  | k + 1, (x0, x3, x4, x5, _) =>
  br (ilt (iadd IntKind.i64 x4 x5) (len x0))
    (chk (inb (iadd IntKind.i64 x4 x5) (len x0))
      (chk (inb x4 (len x0))
        (br (eqD y4 (rd y4 x0 (iadd IntKind.i64 x4 x5)) (rd y4 x0 x4)) ((L22_2 k) (x0, x3, x4, iadd IntKind.i64 x5 1, PUnit.unit))
          (some (LR.out (x0, x3, x4, x5, PUnit.unit))))))
    (some (LR.out (x0, x3, x4, x5, PUnit.unit)))
def R22_2 : (liveT inn22_2).D → Option (LR (resT rs22 (refT ps22)).D (liveT out22_2).D) := L22_2 fuel
def L22_0 : Nat → (liveT inn22_0).D → Option (LR (resT rs22 (refT ps22)).D (liveT out22_0).D)
  | 0, _ => none
  | k + 1, (x0, x3, x4, _) =>
  br (ilt x4 (len x0))
    (obnd (R22_2 (x0, x3, x4, 1, PUnit.unit)) fun r =>
      lcase r (fun r_1 => some (LR.ret r_1)) fun b =>
        br (bnot (seq b.2.1 []))
          (chk (fits b.2.1 [32])
            (chk (inb b.2.2.1 (len b.1))
              (obnd (F19 (rd y4 b.1 b.2.2.1, PUnit.unit)) fun y =>
                chk (fits (app b.2.1 [32]) y.1)
                  (br (ilt 1 b.2.2.2.1)
                    (obnd (F30 (iconv IntKind.u64 b.2.2.2.1, 10, 1, PUnit.unit)) fun y_1 =>
                      chk (fits [42] y_1.1)
                        (chk (fits (app (app b.2.1 [32]) y.1) (app [42] y_1.1))
                          ((L22_0 k) (b.1, app (app (app b.2.1 [32]) y.1) (app [42] y_1.1), iadd IntKind.i64 b.2.2.1 b.2.2.2.1, PUnit.unit))))
                    ((L22_0 k) (b.1, app (app b.2.1 [32]) y.1, iadd IntKind.i64 b.2.2.1 b.2.2.2.1, PUnit.unit))))))
          (chk (inb b.2.2.1 (len b.1))
            (obnd (F19 (rd y4 b.1 b.2.2.1, PUnit.unit)) fun y =>
              chk (fits b.2.1 y.1)
                (br (ilt 1 b.2.2.2.1)
                  (obnd (F30 (iconv IntKind.u64 b.2.2.2.1, 10, 1, PUnit.unit)) fun y_1 =>
                    chk (fits [42] y_1.1)
                      (chk (fits (app b.2.1 y.1) (app [42] y_1.1))
                        ((L22_0 k) (b.1, app (app b.2.1 y.1) (app [42] y_1.1), iadd IntKind.i64 b.2.2.1 b.2.2.2.1, PUnit.unit))))
                  ((L22_0 k) (b.1, app b.2.1 y.1, iadd IntKind.i64 b.2.2.1 b.2.2.2.1, PUnit.unit))))))
    (some (LR.out (x3, PUnit.unit)))
def R22_0 : (liveT inn22_0).D → Option (LR (resT rs22 (refT ps22)).D (liveT out22_0).D) := L22_0 fuel
def F22 : (argT ps22).D → Option (resT rs22 (refT ps22)).D
  | (x0, _) =>
  obnd (R22_0 (x0, [], 0, PUnit.unit)) fun r => lcase r some fun b => some (b.1, PUnit.unit)
def con22 : Con := ⟨22, ps22, rs22, F22, 0⟩
def cons22 : List Con := [con19, con30]
def ls22 : Nat → Option (LoopS (resT rs22 (refT ps22)).D) := (fun id => match Nat.beq id 2 with | true => some { inn := inn22_2, out := out22_2, run := R22_2 } | false => match Nat.beq id 0 with | true => some { inn := inn22_0, out := out22_0, run := R22_0 } | false => none)
theorem L22_2_eq (k : Nat) (x) : L22_2 (k + 1) x = evalL T cons22 Tryd.f22 ps22 rs22 ls22 2 (loopIn (bodyOf Tryd.f22) 2) inn22_2 out22_2 (L22_2 k) x := by
  obtain ⟨x0, x3, x4, x5, u⟩ := x
  kernel_rfl
theorem L22_0_eq (k : Nat) (x) : L22_0 (k + 1) x = evalL T cons22 Tryd.f22 ps22 rs22 ls22 0 (loopIn (bodyOf Tryd.f22) 0) inn22_0 out22_0 (L22_0 k) x := by
  obtain ⟨x0, x3, x4, u⟩ := x
  kernel_rfl
theorem F22_eq (x) : F22 x = evalF T cons22 Tryd.f22 ps22 rs22 ls22 x := by
  obtain ⟨x0, u⟩ := x
  kernel_rfl
theorem all22 : allLoops (bodyOf Tryd.f22) = [(0, loopIn (bodyOf Tryd.f22) 0), (2, loopIn (bodyOf Tryd.f22) 2)] := by kernel_rfl
theorem ok22 : ConOk Tryd.prog con22 := by
  have h1 : Tryd.prog.follows .mixedOrders = true := by kernel_rfl
  have h2 : Tryd.f22.body = some (bodyOf Tryd.f22) := by kernel_rfl
  have h3 : (Tryd.f22.name == "runtime.NumGoroutine") = false := by kernel_rfl
  have h4 : Tryd.f22.results.toList.length = List.length rs22 := by kernel_rfl
  have h5 : Nat.ble (List.length ps22) Tryd.f22.ntmps = true := by kernel_rfl
  have hT : TabOk Tryd.prog T := tab_ok tab
  have hC : ∀ c ∈ cons22, ConOk Tryd.prog c := by
    intro c hc
    simp only [cons22, List.mem_cons, List.not_mem_nil, or_false] at hc
    rcases hc with rfl | rfl
    · exact ok19
    · exact ok30
  have h6 := Tryd.func22
  have h7 := F22_eq
  have hall := all22
  have h8_2 := L22_2_eq
  have h8_0 := L22_0_eq
  generalize Tryd.prog = P at *
  generalize Tryd.f22 = fn at *
  refine func_all (fn := fn) (body := bodyOf fn) (ls := ls22) hT hC h1 h6 h2 h3 h4 h5 F22 h7 fun p hp Ls hLs => ?_
  rw [hall] at hp
  simp only [List.mem_cons, List.not_mem_nil, or_false] at hp
  rcases hp with rfl | rfl
  · cases hLs
    exact ⟨L22_0, fun _ => rfl, h8_0, fun x r h => ⟨fuel, h⟩⟩
  · cases hLs
    exact ⟨L22_2, fun _ => rfl, h8_2, fun x r h => ⟨fuel, h⟩⟩
-- slices . Equal[[]spinet/api . Pins,spinet/api . Pins]
abbrev ps23 : List PK := [.val (.slice y4), .val (.slice y4)]
abbrev rs23 : List RK := [.val .bool]
def inn23_0 : List LK := [.dat 0 (.slice y4), .dat 1 (.slice y4), .dat 12 (.int .i64), .dat 13 (.int .i64)]
def out23_0 : List LK := []
def L23_0 : Nat → (liveT inn23_0).D → Option (LR (resT rs23 (refT ps23)).D (liveT out23_0).D)
  | 0, _ => none
  | k + 1, (x0, x1, x12, x13, _) =>
  br (ilt x13 x12)
    (chk (inb x13 (len x0))
      (chk (inb x13 (len x1))
        (br (bnot (eqD y4 (rd y4 x0 x13) (rd y4 x1 x13))) (some (LR.ret (false, PUnit.unit))) ((L23_0 k) (x0, x1, x12, iadd IntKind.i64 x13 1, PUnit.unit)))))
    (some (LR.out PUnit.unit))
def R23_0 : (liveT inn23_0).D → Option (LR (resT rs23 (refT ps23)).D (liveT out23_0).D) := L23_0 fuel
def F23 : (argT ps23).D → Option (resT rs23 (refT ps23)).D
  | (x0, x1, _) =>
  br (bnot (ieq (len x0) (len x1))) (some (false, PUnit.unit))
    (obnd (R23_0 (x0, x1, len x0, 0, PUnit.unit)) fun r => lcase r some fun b => some (true, PUnit.unit))
def con23 : Con := ⟨23, ps23, rs23, F23, 0⟩
def cons23 : List Con := []
def ls23 : Nat → Option (LoopS (resT rs23 (refT ps23)).D) := (fun id => match Nat.beq id 0 with | true => some { inn := inn23_0, out := out23_0, run := R23_0 } | false => none)
theorem L23_0_eq (k : Nat) (x) : L23_0 (k + 1) x = evalL T cons23 Tryd.f23 ps23 rs23 ls23 0 (loopIn (bodyOf Tryd.f23) 0) inn23_0 out23_0 (L23_0 k) x := by
  obtain ⟨x0, x1, x12, x13, u⟩ := x
  kernel_rfl
theorem F23_eq (x) : F23 x = evalF T cons23 Tryd.f23 ps23 rs23 ls23 x := by
  obtain ⟨x0, x1, u⟩ := x
  kernel_rfl
theorem all23 : allLoops (bodyOf Tryd.f23) = [(0, loopIn (bodyOf Tryd.f23) 0)] := by kernel_rfl
theorem ok23 : ConOk Tryd.prog con23 := by
  have h1 : Tryd.prog.follows .mixedOrders = true := by kernel_rfl
  have h2 : Tryd.f23.body = some (bodyOf Tryd.f23) := by kernel_rfl
  have h3 : (Tryd.f23.name == "runtime.NumGoroutine") = false := by kernel_rfl
  have h4 : Tryd.f23.results.toList.length = List.length rs23 := by kernel_rfl
  have h5 : Nat.ble (List.length ps23) Tryd.f23.ntmps = true := by kernel_rfl
  have hT : TabOk Tryd.prog T := tab_ok tab
  have hC : ∀ c ∈ cons23, ConOk Tryd.prog c := fun c hc => by cases hc
  have h6 := Tryd.func23
  have h7 := F23_eq
  have hall := all23
  have h8_0 := L23_0_eq
  generalize Tryd.prog = P at *
  generalize Tryd.f23 = fn at *
  refine func_all (fn := fn) (body := bodyOf fn) (ls := ls23) hT hC h1 h6 h2 h3 h4 h5 F23 h7 fun p hp Ls hLs => ?_
  rw [hall] at hp
  simp only [List.mem_cons, List.not_mem_nil, or_false] at hp
  rcases hp with rfl
  · cases hLs
    exact ⟨L23_0, fun _ => rfl, h8_0, fun x r h => ⟨fuel, h⟩⟩
-- spinet/spinetlaw31 . alive
abbrev ps24 : List PK := []
abbrev rs24 : List RK := [.val .bool]
def F24 : (argT ps24).D → Option (resT rs24 (refT ps24)).D
  | _ =>
  obnd (F21 ([82, 42, 50, 32, 46, 32, 78, 70], PUnit.unit)) fun y =>
    br (ieq (len y.1) 4)
      (chk (inb 1 (len y.1))
        (br (rd y4 y.1 1).1
          (chk (inb 3 (len y.1))
            (br (rd y4 y.1 3).2.1 (br (ieq y.2.1 0) (some (true, PUnit.unit)) (some (false, PUnit.unit))) (some (false, PUnit.unit))))
          (some (false, PUnit.unit))))
      (some (false, PUnit.unit))
def con24 : Con := ⟨24, ps24, rs24, F24, 0⟩
def cons24 : List Con := [con21]
def ls24 : Nat → Option (LoopS (resT rs24 (refT ps24)).D) := (fun id => none)
theorem F24_eq (x) : F24 x = evalF T cons24 Tryd.f24 ps24 rs24 ls24 x := by
  kernel_rfl
theorem all24 : allLoops (bodyOf Tryd.f24) = [] := by kernel_rfl
theorem ok24 : ConOk Tryd.prog con24 := by
  have h1 : Tryd.prog.follows .mixedOrders = true := by kernel_rfl
  have h2 : Tryd.f24.body = some (bodyOf Tryd.f24) := by kernel_rfl
  have h3 : (Tryd.f24.name == "runtime.NumGoroutine") = false := by kernel_rfl
  have h4 : Tryd.f24.results.toList.length = List.length rs24 := by kernel_rfl
  have h5 : Nat.ble (List.length ps24) Tryd.f24.ntmps = true := by kernel_rfl
  have hT : TabOk Tryd.prog T := tab_ok tab
  have hC : ∀ c ∈ cons24, ConOk Tryd.prog c := by
    intro c hc
    simp only [cons24, List.mem_cons, List.not_mem_nil, or_false] at hc
    rcases hc with rfl
    · exact ok21
  have h6 := Tryd.func24
  have h7 := F24_eq
  have hall := all24
  generalize Tryd.prog = P at *
  generalize Tryd.f24 = fn at *
  refine func_all (fn := fn) (body := bodyOf fn) (ls := ls24) hT hC h1 h6 h2 h3 h4 h5 F24 h7 fun p hp Ls hLs => ?_
  rw [hall] at hp
  cases hp
-- spinet/spinetlaw31 . PinsTexts
abbrev ps5 : List PK := [.val (.slice y4)]
abbrev rs5 : List RK := [.val .bool]
def inn5_0 : List LK := [.dat 0 (.slice y4), .dat 3 (.int .i64)]
def out5_0 : List LK := [.dat 0 (.slice y4)]
def L5_0 : Nat → (liveT inn5_0).D → Option (LR (resT rs5 (refT ps5)).D (liveT out5_0).D)
  | 0, _ => none
  | k + 1, (x0, x3, _) =>
  br (ilt x3 (len x0))
    (chk (inb x3 (len x0))
      (obnd (F18 (rd y4 x0 x3, PUnit.unit)) fun y =>
        obnd (F17 (y.1, PUnit.unit)) fun y_1 =>
          chk (inb x3 (len x0))
            (obnd (F18 (rd y4 x0 x3, PUnit.unit)) fun y_2 =>
              chk (inb x3 (len x0))
                (obnd (F19 (rd y4 x0 x3, PUnit.unit)) fun y_3 =>
                  br (bnot (seq y_2.1 y_3.1)) (some (LR.ret (false, PUnit.unit)))
                    (chk (inb x3 (len x0))
                      (br (bnot (eqD y4 y_1.1 (rd y4 x0 x3))) (some (LR.ret (false, PUnit.unit)))
                        (br (bnot y_1.2.1) (some (LR.ret (false, PUnit.unit))) ((L5_0 k) (x0, iadd IntKind.i64 x3 1, PUnit.unit)))))))))
    (some (LR.out (x0, PUnit.unit)))
def R5_0 : (liveT inn5_0).D → Option (LR (resT rs5 (refT ps5)).D (liveT out5_0).D) := L5_0 fuel
def F5 : (argT ps5).D → Option (resT rs5 (refT ps5)).D
  | (x0, _) =>
  br (ilt 300 (len x0)) (some (true, PUnit.unit))
    (obnd (R5_0 (x0, 0, PUnit.unit)) fun r =>
      lcase r some fun b =>
        obnd (F20 (b.1, PUnit.unit)) fun y =>
          obnd (F21 (y.1, PUnit.unit)) fun y_1 =>
            obnd (F22 (b.1, PUnit.unit)) fun y_2 =>
              br (seq y.1 y_2.1)
                (obnd (F23 (y_1.1, b.1, PUnit.unit)) fun y_3 =>
                  br y_3.1 (br (ieq y_1.2.1 0) (obnd (F24 PUnit.unit) fun y_4 => some (y_4.1, PUnit.unit)) (some (false, PUnit.unit)))
                    (some (false, PUnit.unit)))
                (some (false, PUnit.unit)))
def con5 : Con := ⟨5, ps5, rs5, F5, 0⟩
def cons5 : List Con := [con17, con18, con19, con20, con21, con22, con23, con24]
def ls5 : Nat → Option (LoopS (resT rs5 (refT ps5)).D) := (fun id => match Nat.beq id 0 with | true => some { inn := inn5_0, out := out5_0, run := R5_0 } | false => none)
theorem L5_0_eq (k : Nat) (x) : L5_0 (k + 1) x = evalL T cons5 Tryd.f5 ps5 rs5 ls5 0 (loopIn (bodyOf Tryd.f5) 0) inn5_0 out5_0 (L5_0 k) x := by
  obtain ⟨x0, x3, u⟩ := x
  kernel_rfl
theorem F5_eq (x) : F5 x = evalF T cons5 Tryd.f5 ps5 rs5 ls5 x := by
  obtain ⟨x0, u⟩ := x
  kernel_rfl
theorem all5 : allLoops (bodyOf Tryd.f5) = [(0, loopIn (bodyOf Tryd.f5) 0)] := by kernel_rfl
theorem ok5 : ConOk Tryd.prog con5 := by
  have h1 : Tryd.prog.follows .mixedOrders = true := by kernel_rfl
  have h2 : Tryd.f5.body = some (bodyOf Tryd.f5) := by kernel_rfl
  have h3 : (Tryd.f5.name == "runtime.NumGoroutine") = false := by kernel_rfl
  have h4 : Tryd.f5.results.toList.length = List.length rs5 := by kernel_rfl
  have h5 : Nat.ble (List.length ps5) Tryd.f5.ntmps = true := by kernel_rfl
  have hT : TabOk Tryd.prog T := tab_ok tab
  have hC : ∀ c ∈ cons5, ConOk Tryd.prog c := by
    intro c hc
    simp only [cons5, List.mem_cons, List.not_mem_nil, or_false] at hc
    rcases hc with rfl | rfl | rfl | rfl | rfl | rfl | rfl | rfl
    · exact ok17
    · exact ok18
    · exact ok19
    · exact ok20
    · exact ok21
    · exact ok22
    · exact ok23
    · exact ok24
  have h6 := Tryd.func5
  have h7 := F5_eq
  have hall := all5
  have h8_0 := L5_0_eq
  generalize Tryd.prog = P at *
  generalize Tryd.f5 = fn at *
  refine func_all (fn := fn) (body := bodyOf fn) (ls := ls5) hT hC h1 h6 h2 h3 h4 h5 F5 h7 fun p hp Ls hLs => ?_
  rw [hall] at hp
  simp only [List.mem_cons, List.not_mem_nil, or_false] at hp
  rcases hp with rfl
  · cases hLs
    exact ⟨L5_0, fun _ => rfl, h8_0, fun x r h => ⟨fuel, h⟩⟩
end W
end Go.SX
