/- WaveReads, the plain law. -/
import Derived.Test.YtmblgpbcclpgjaaDoorSxSplit
import Derived.Test.YtmblgpbcclpgjaaDoorSxB
set_option maxRecDepth 100000
namespace Go.SX
namespace W
set_option linter.unusedVariables false
set_option linter.unusedSimpArgs false
abbrev Rec := y3.D

/-- a line's level -/
def lvl (i : Nat) (x : Rec) : Bool := rd Ty.bool [x.2.2.1, x.2.2.2.1, x.2.2.2.2.1, x.2.2.2.2.2.1, x.2.2.2.2.2.2.1, x.2.2.2.2.2.2.2.1, x.2.2.2.2.2.2.2.2.1] (i : Int)
def sg (b : Bool) : Int := bif b then 35 else 95
def lineI (i : Nat) (l : List Rec) : List Int := l.map fun x => sg (lvl i x)

theorem L26_eqn {i : Nat} (hi : i < 7) {l : List Rec} (hl : l.length < 1000000000) : ∀ (m : List Rec) (j k : Nat) (s : List Int), l.drop j = m → m.length < k → s.length + m.length < 1000000000 →
    L26_0 k ((i : Int), l, len l, (j : Int), s, ()) = some (.out (s ++ lineI i m, ()))
  | [], j, k + 1, s, h, hk, hs => by
    show br _ _ _ = _
    rw [at_nil h, show lineI i [] = [] from rfl, List.append_nil]
    rfl
  | x :: m, j, k + 1, s, h, hk, hs => by
    obtain ⟨h1, h2, h3, h4, h5⟩ := at_cons y3 h (by omega)
    simp only [List.length_cons] at hk hs
    have ih := fun c : Int => L26_eqn hi hl m (j + 1) k (app s [c]) h5 (by omega) (by simp [app]; omega)
    have e43 : F43 (x, (i : Int), ()) = some (lvl i x, ()) := by
      show chk (inb (i : Int) 7) _ = _
      rw [inb_t (by omega) (by omega)]
      rfl
    show br _ (chk _ (obnd (F43 (rd y3 l (j : Int), (i : Int), ())) _)) _ = _
    rw [h1, h2, h3, e43]
    show br (lvl i x) (chk (fits s [35]) ((L26_0 k) ((i : Int), l, len l, iadd .i64 (j : Int) 1, app s [35], ()))) (chk (fits s [95]) ((L26_0 k) ((i : Int), l, len l, iadd .i64 (j : Int) 1, app s [95], ()))) = _
    rw [h4, fits_t (by simp; omega), fits_t (by simp; omega), chk_t, chk_t, ih 35, ih 95]
    simp only [lineI, List.map_cons, app, List.append_assoc]
    cases lvl i x <;> rfl
  | _, _, 0, _, _, hk, _ => by omega

theorem F26_eqn {i : Nat} (hi : i < 7) {l : List Rec} (hl : l.length < 1000000000) : F26 ((i : Int), l, ()) = some (lineI i l, ()) := by
  have e := L26_eqn hi hl l 0 fuel [] rfl (by unfold fuel; omega) (by simp; omega)
  show br (ilt (i : Int) 0) _ (br (ilt 6 (i : Int)) _ (obnd (L26_0 fuel ((i : Int), l, len l, 0, [], ())) _)) = _
  rw [ilt_f (by omega), ilt_f (by omega), show L26_0 fuel ((i : Int), l, len l, 0, [], ()) = _ from e]
  rfl
theorem F26_none {i : Int} (hi : i < 0 ∨ 6 < i) {l : List Rec} : F26 (i, l, ()) = some ([], ()) := by
  show br (ilt i 0) _ (br (ilt 6 i) _ _) = _
  by_cases h : i < 0
  · rw [ilt_t h]; rfl
  · rw [ilt_f h, ilt_t (by omega)]; rfl

def nms : List (List Int) := [[82, 69, 65, 68], [66, 65], [66, 83], [76, 73, 67], [65, 86, 77, 65], [66, 85, 83, 89], [77, 73, 78, 69]]
def pads : List (List Int) := [[82, 69, 65, 68, 32], [66, 65, 32, 32, 32], [66, 83, 32, 32, 32], [76, 73, 67, 32, 32], [65, 86, 77, 65, 32], [66, 85, 83, 89, 32], [77, 73, 78, 69, 32]]
def rowI (l : List Rec) (i : Nat) : List Int := app (app (pads.getD i []) (lineI i l)) [10]

theorem lineI_len (i : Nat) (l : List Rec) : (lineI i l).length = l.length := by simp [lineI]

theorem L15_go {l : List Rec} (hl : l.length < 1000000) {i : Nat} (hi : i < 7) {s : List Int} {k : Nat} (hs : s.length < 1000000000) : L15_0 (k + 1) (l, nms, 7, (i : Int), s, ()) = L15_0 k (l, nms, 7, ((i + 1 : Nat) : Int), app s (rowI l i), ()) := by
  have e26 := F26_eqn hi (l := l) (by omega)
  have hll := lineI_len i l
  have main : ∀ (p : List Int), (hp : p.length = 5) → (obnd (F26 ((i : Int), l, ())) fun y_1 => chk (fits p y_1.1) (chk (fits (app p y_1.1) [10]) (chk (fits s (app (app p y_1.1) [10])) ((L15_0 k) (l, nms, 7, iadd .i64 (i : Int) 1, app s (app (app p y_1.1) [10]), ()))))) = L15_0 k (l, nms, 7, ((i + 1 : Nat) : Int), app s (app (app p (lineI i l)) [10]), ()) := by
    intro p hp
    rw [e26]
    show chk (fits p (lineI i l)) (chk (fits (app p (lineI i l)) [10]) (chk (fits s (app (app p (lineI i l)) [10])) ((L15_0 k) (l, nms, 7, iadd .i64 (i : Int) 1, app s (app (app p (lineI i l)) [10]), ())))) = _
    rw [fits_t (by omega), fits_t (by simp [app]; omega), fits_t (by simp [app]; omega), iadd64 (by omega) (by omega)]
    rfl
  have hcs : i = 0 ∨ i = 1 ∨ i = 2 ∨ i = 3 ∨ i = 4 ∨ i = 5 ∨ i = 6 := by omega
  rcases hcs with rfl | rfl | rfl | rfl | rfl | rfl | rfl <;> exact main _ rfl

def textI (l : List Rec) : List Int := app (app (app (app (app (app (app [] (rowI l 0)) (rowI l 1)) (rowI l 2)) (rowI l 3)) (rowI l 4)) (rowI l 5)) (rowI l 6)

theorem names_eq : F35 ([82, 69, 65, 68, 32, 66, 65, 32, 66, 83, 32, 76, 73, 67, 32, 65, 86, 77, 65, 32, 66, 85, 83, 89, 32, 77, 73, 78, 69], [32], ()) = some (nms, ()) := by
  rw [F35_one _ _ (by decide)]
  rfl

theorem rowI_len (l : List Rec) {i : Nat} (hi : i < 7) : (rowI l i).length = l.length + 6 := by
  have hcs : i = 0 ∨ i = 1 ∨ i = 2 ∨ i = 3 ∨ i = 4 ∨ i = 5 ∨ i = 6 := by omega
  rcases hcs with rfl | rfl | rfl | rfl | rfl | rfl | rfl <;> (simp [rowI, app, lineI, pads])

theorem F15_eqn {l : List Rec} (hl : l.length < 1000000) : F15 (l, ()) = some (textI l, ()) := by
  obtain ⟨k, hk⟩ : ∃ k, fuel = k + 1 + 1 + 1 + 1 + 1 + 1 + 1 + 1 := ⟨1099511627768, rfl⟩
  have r := fun i (hi : i < 7) => rowI_len l hi
  show obnd (F35 ([82, 69, 65, 68, 32, 66, 65, 32, 66, 83, 32, 76, 73, 67, 32, 65, 86, 77, 65, 32, 66, 85, 83, 89, 32, 77, 73, 78, 69], [32], ())) _ = _
  rw [names_eq]
  show obnd (L15_0 fuel (l, nms, 7, ((0 : Nat) : Int), [], ())) _ = _
  rw [hk, L15_go hl (by omega) (by simp), L15_go hl (by omega) (by simp [app, r 0 (by omega)]; omega), L15_go hl (by omega) (by simp [app, r 0 (by omega), r 1 (by omega)]; omega),
    L15_go hl (by omega) (by simp [app, r 0 (by omega), r 1 (by omega), r 2 (by omega)]; omega), L15_go hl (by omega) (by simp [app, r 0 (by omega), r 1 (by omega), r 2 (by omega), r 3 (by omega)]; omega),
    L15_go hl (by omega) (by simp [app, r 0 (by omega), r 1 (by omega), r 2 (by omega), r 3 (by omega), r 4 (by omega)]; omega), L15_go hl (by omega) (by simp [app, r 0 (by omega), r 1 (by omega), r 2 (by omega), r 3 (by omega), r 4 (by omega), r 5 (by omega)]; omega)]
  rfl

theorem L142_some {s : List Int} {rows : List (List Int)} (h8 : rows.length = 8) {i : Nat} {n : Int} {rs : List Rec} (hi : i < 1000000) : ∀ (q j k : Nat) (bs : List Bool), j + q = 7 → q < k → ∃ bs' : List Bool, L14_2 k (s, rows, (i : Int), n, (i : Int), (j : Int), rs, bs, ()) = some (.out (s, rows, n, (i : Int), rs, bs', ()))
  | 0, j, k + 1, bs, hj, hk => by
    obtain rfl : j = 7 := by omega
    exact ⟨bs, rfl⟩
  | q + 1, j, k + 1, bs, hj, hk => by
    have ih := fun b : Bool => L142_some (s := s) (n := n) (rs := rs) h8 hi q (j + 1) k (upd bs (Int.ofNat (tn (j : Int))) b) (by omega) (by omega)
    have e1 : iadd .i64 (j : Int) 1 = ((j + 1 : Nat) : Int) := by rw [iadd64 (by omega) (by omega)]; omega
    have e2 : iadd .i64 (i : Int) 5 = ((i + 5 : Nat) : Int) := by rw [iadd64 (by omega) (by omega)]; omega
    show ∃ bs' : List Bool, br (ilt (j : Int) 7) (chk (inb (j : Int) (len rows)) (br (ilt (iadd .i64 (i : Int) 5) (len (rd Ty.str rows (j : Int)))) (chk (inb (j : Int) (len rows)) (chk (inb (iadd .i64 (i : Int) 5) (len (rd Ty.str rows (j : Int)))) (chk (inb (j : Int) 7) ((L14_2 k) (s, rows, (i : Int), n, (i : Int), iadd .i64 (j : Int) 1, rs, upd bs (Int.ofNat (tn (j : Int))) _, ())))))
      (chk (inb (j : Int) 7) ((L14_2 k) (s, rows, (i : Int), n, (i : Int), iadd .i64 (j : Int) 1, rs, upd bs (Int.ofNat (tn (j : Int))) false, ()))))) _ = _
    rw [ilt_t (by omega), inb_t (b := len rows) (by omega) (by unfold len; omega), inb_t (b := 7) (by omega) (by omega), e1, e2]
    simp only [br_t, chk_t]
    by_cases hlt : ((i + 5 : Nat) : Int) < len (rd Ty.str rows (j : Int))
    · rw [ilt_t hlt, inb_t (by omega) hlt]
      exact ih _
    · rw [ilt_f hlt]
      exact ih false
  | _, _, 0, _, _, hk => by omega

/-- nothing but levels -/
def bare (x : Rec) : Prop := x.1 = 0 ∧ x.2.1 = 0

theorem L140_some {s : List Int} {rows : List (List Int)} (h8 : rows.length = 8) {n : Nat} (hn : n < 1000000) : ∀ (q i k : Nat) (rs : List Rec), i + q = n → q < k → rs.length = i → (∀ x ∈ rs, bare x) → ∃ rs' : List Rec, L14_0 k (s, rows, (n : Int), (i : Int), rs, ()) = some (.out (s, rs', ())) ∧ rs'.length = n ∧ ∀ x ∈ rs', bare x
  | 0, i, k + 1, rs, hi, hk, hr, hb => by
    obtain rfl : i = n := by omega
    refine ⟨rs, ?_, hr, hb⟩
    show br (ilt (i : Int) (i : Int)) _ _ = _
    rw [ilt_f (by omega)]
    rfl
  | q + 1, i, k + 1, rs, hi, hk, hr, hb => by
    obtain ⟨bs, e⟩ := L142_some (s := s) (n := (n : Int)) (rs := rs) h8 (i := i) (by omega) 7 0 fuel [false, false, false, false, false, false, false] (by omega) (by unfold fuel; omega)
    have e1 : iadd .i64 (i : Int) 1 = ((i + 1 : Nat) : Int) := by rw [iadd64 (by omega) (by omega)]; omega
    let x : Rec := (0, 0, rd Ty.bool bs (Int.ofNat (tn 0)), rd Ty.bool bs (Int.ofNat (tn 1)), rd Ty.bool bs (Int.ofNat (tn 2)), rd Ty.bool bs (Int.ofNat (tn 3)), rd Ty.bool bs (Int.ofNat (tn 4)), rd Ty.bool bs (Int.ofNat (tn 5)), rd Ty.bool bs (Int.ofNat (tn 6)), ())
    obtain ⟨rs', q1, q2, q3⟩ := L140_some (s := s) (rows := rows) h8 hn q (i + 1) k (app rs [x]) (by omega) (by omega) (by simp [app, hr]) (fun y hy => by
      rcases List.mem_append.1 hy with hy | hy
      · exact hb y hy
      · rw [List.mem_singleton] at hy; subst hy; exact ⟨rfl, rfl⟩)
    refine ⟨rs', ?_, q2, q3⟩
    show br (ilt (i : Int) (n : Int)) (obnd (L14_2 fuel (s, rows, (i : Int), (n : Int), (i : Int), 0, rs, [false, false, false, false, false, false, false], ())) _) _ = _
    rw [ilt_t (by omega), show L14_2 fuel (s, rows, (i : Int), (n : Int), (i : Int), 0, rs, [false, false, false, false, false, false, false], ()) = _ from e]
    show chk (fits rs [x]) ((L14_0 k) (s, rows, (n : Int), iadd .i64 (i : Int) 1, app rs [x], ())) = _
    rw [fits_t (by simp [hr]; omega), e1]
    exact q1
  | _, _, 0, _, _, hk, _, _ => by omega

/-- reading lines -/
theorem F14_eqn (s : List Int) (hs : s.length < 100000) : F14 (s, ()) = some ([], 21, ()) ∨ ∃ l : List Rec, F14 (s, ()) = some (l, 0, ()) ∧ textI l = s ∧ l.length < 1000000 ∧ ∀ x ∈ l, bare x := by
  have e35 := F35_one s 10 (by omega)
  have hlen := splitC_len (c := 10) s
  generalize splitC 10 s = rows at *
  have eF : F14 (s, ()) = br (bnot (ieq (len rows) 8)) (some ([], 21, ())) (chk (inb 0 (len rows)) (br (ilt (len (rd Ty.str rows 0)) 5) (some ([], 21, ())) (chk (inb 0 (len rows)) (obnd (L14_0 fuel (s, rows, isub .i64 (len (rd Ty.str rows 0)) 5, 0, [], ())) fun r =>
              lcase r some fun b => obnd (F15 (b.2.1, ())) fun y_1 => br (bnot (seq y_1.1 b.1)) (some ([], 21, ())) (some (b.2.1, 0, ())))))) := by
    show obnd (F35 (s, [10], ())) _ = _
    rw [e35]
    rfl
  rw [eF]
  by_cases h8 : rows.length = 8
  · rw [ieq_t (show len rows = 8 by unfold len; omega), inb_t (by omega) (by unfold len; omega)]
    simp only [bnot_t, br_f, chk_t]
    by_cases h5 : len (rd Ty.str rows 0) < 5
    · rw [ilt_t h5]; exact .inl rfl
    · rw [ilt_f h5]
      simp only [br_f]
      have hm : rd Ty.str rows 0 ∈ rows := by
        cases rows with
        | nil => simp at h8
        | cons a t => exact List.mem_cons_self
      have hle := hlen _ hm
      have hl5 : ¬ ((rd Ty.str rows 0).length : Int) < 5 := h5
      obtain ⟨n, hn⟩ : ∃ n : Nat, (rd Ty.str rows 0).length = n + 5 := ⟨(rd Ty.str rows 0).length - 5, by omega⟩
      have en : isub .i64 (len (rd Ty.str rows 0)) 5 = (n : Int) := by unfold len; rw [hn, isub64 (by omega) (by omega)]; omega
      obtain ⟨l, q1, q2, q3⟩ := L140_some (s := s) (rows := rows) h8 (n := n) (by omega) n 0 fuel [] (by omega) (by unfold fuel; omega) rfl (fun x hx => by cases hx)
      rw [en, show L14_0 fuel (s, rows, (n : Int), 0, [], ()) = _ from q1]
      show (obnd (F15 (l, ())) fun y_1 => br (bnot (seq y_1.1 s)) (some ([], 21, ())) (some (l, 0, ()))) = _ ∨ ∃ l', (obnd (F15 (l, ())) fun y_1 => br (bnot (seq y_1.1 s)) (some ([], 21, ())) (some (l, 0, ()))) = _ ∧ _
      rw [F15_eqn (by omega)]
      show br (bnot (seq (textI l) s)) (some ([], 21, ())) (some (l, 0, ())) = _ ∨ ∃ l', br (bnot (seq (textI l) s)) (some ([], 21, ())) (some (l, 0, ())) = _ ∧ _
      cases hq : seq (textI l) s with
      | false => exact .inl rfl
      | true => exact .inr ⟨l, rfl, by simpa [seq] using hq, by omega, q3⟩
  · rw [ieq_f (show len rows ≠ 8 by unfold len; omega)]
    exact .inl rfl

theorem F14_empty : F14 (textI [], ()) = some ([], 0, ()) := by kernel_rfl
theorem F16_true : F16 () = some (true, ()) := by kernel_rfl

theorem L40_eqn {s : List Int} {l : List Rec} (hl : l.length < 1000000) (hb : ∀ x ∈ l, bare x) : ∀ (m : List Rec) (i k : Nat), l.drop i = m → m.length < k → L4_0 k (s, l, (i : Int), ()) = some (.out (s, l, ()))
  | [], i, k + 1, h, hk => by
    show br _ _ _ = _
    rw [at_nil h]; rfl
  | x :: m, i, k + 1, h, hk => by
    obtain ⟨h1, h2, h3, h4, h5⟩ := at_cons y3 h (by omega)
    simp only [List.length_cons] at hk
    have hx : bare x := hb x (List.drop_subset i l (by rw [h]; exact List.mem_cons_self))
    show br _ (chk _ (br (bnot (ieq (rd y3 l (i : Int)).1 0)) _ (chk _ (br (bnot (ieq (rd y3 l (i : Int)).2.1 0)) _ _)))) _ = _
    rw [h1, h2, h3, h4, ieq_t hx.1, ieq_t hx.2]
    exact L40_eqn hl hb m (i + 1) k h5 (by omega)
  | _, _, 0, _, hk => by omega

/-- WaveReads answers true -/
theorem F4_true (s : List Int) : F4 (s, ()) = some (true, ()) := by
  show br (ilt 400 (len s)) _ (obnd (F14 (s, ())) _) = _
  by_cases hs : 400 < len s
  · rw [ilt_t hs]; rfl
  · rw [ilt_f hs]
    have hl : s.length ≤ 400 := by unfold len at hs; omega
    rcases F14_eqn s (by omega) with h | ⟨l, h, ht, hn, hb⟩
    · rw [h]
      show (obnd (F15 ([], ())) fun y_1 => br (bnot (seq s y_1.1)) (obnd (F16 ()) fun y_2 => some (y_2.1, ())) (some (false, ()))) = _
      rw [F15_eqn (by simp)]
      have hne : seq s (textI []) = false := by
        cases hq : seq s (textI []) with
        | false => rfl
        | true =>
          have : s = textI [] := by simpa [seq] using hq
          rw [this, F14_empty] at h
          have h' : (0 : Int) = 21 := congrArg (fun o : Option (List Rec × Int × Unit) => match o with | some x => x.2.1 | none => 5) h
          omega
      show br (bnot (seq s (textI []))) (obnd (F16 ()) fun y_2 => some (y_2.1, ())) (some (false, ())) = _
      rw [hne, F16_true]
      rfl
    · rw [h]
      show (obnd (L4_0 fuel (s, l, 0, ())) fun r => lcase r some fun b => obnd (F15 (b.2.1, ())) fun y_1 => br (seq y_1.1 b.1) (obnd (F16 ()) fun y_2 => some (y_2.1, ())) (some (false, ()))) = _
      rw [show L4_0 fuel (s, l, 0, ()) = _ from L40_eqn (s := s) hn hb l 0 fuel rfl (by unfold fuel; omega)]
      show (obnd (F15 (l, ())) fun y_1 => br (seq y_1.1 s) (obnd (F16 ()) fun y_2 => some (y_2.1, ())) (some (false, ()))) = _
      rw [F15_eqn hn, ht]
      show br (seq s s) (obnd (F16 ()) fun y_2 => some (y_2.1, ())) (some (false, ())) = _
      rw [show seq s s = true from by simp [seq], F16_true]
      rfl
end W
end Go.SX
