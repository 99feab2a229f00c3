/- WaveDraws, the plain law. -/
import Derived.Test.YtmblgpbcclpgjaaDoorSxWave
set_option maxRecDepth 100000
namespace Go.SX
namespace W
set_option linter.unusedVariables false
set_option linter.unusedSimpArgs false

def onI (line : Int) (x : Rec) : Bool := bif ile 0 line then (bif ilt line 7 then lvl line.toNat x else false) else false
theorem onI_nat {i : Nat} (h : i < 7) (x : Rec) : onI (i : Int) x = lvl i x := by
  unfold onI
  rw [ile_t (by omega), ilt_t (by omega)]
  rfl
theorem onI_out {line : Int} (h : line < 0 ∨ 6 < line) (x : Rec) : onI line x = false := by
  unfold onI
  by_cases h0 : 0 ≤ line
  · rw [ile_t h0, ilt_f (by omega)]; rfl
  · rw [ile_f h0]; rfl
theorem F25_eqn (x : Rec) (line : Int) : F25 (x, line, ()) = some (onI line x, ()) := by
  unfold onI
  show br (ile 0 line) (br (ilt line 7) (chk (inb line 7) (some (rd Ty.bool [x.2.2.1, x.2.2.2.1, x.2.2.2.2.1, x.2.2.2.2.2.1, x.2.2.2.2.2.2.1, x.2.2.2.2.2.2.2.1, x.2.2.2.2.2.2.2.2.1] (Int.ofNat (tn line)), ()))) (some (false, ()))) (some (false, ())) = _
  by_cases h0 : 0 ≤ line
  · rw [ile_t h0]
    by_cases h1 : line < 7
    · rw [ilt_t h1, inb_t h0 h1]; rfl
    · rw [ilt_f h1]; rfl
  · rw [ile_f h0]; rfl

theorem L62_eqn {l : List Rec} (hl : l.length < 1000000) {line : Int} {tx : List Int} {q : Nat} (hq : q < 7) {bare : List Rec} {pd : List (List Int)} : ∀ (m : List Rec) (i k : Nat) (s : List Int), l.drop i = m → m.length < k → s.length + m.length < 10000000 →
    L6_2 k (l, line, tx, (q : Int), s, (i : Int), bare, pd, ()) = some (.out (l, line, tx, (q : Int), s ++ lineI q m, bare, pd, ()))
  | [], i, k + 1, s, h, hk, hs => by
    show br _ _ _ = _
    rw [at_nil h, show lineI q [] = [] from rfl, List.append_nil]
    rfl
  | x :: m, i, k + 1, s, h, hk, hs => by
    obtain ⟨h1, h2, h3, h4, h5⟩ := at_cons y3 h (by omega)
    simp only [List.length_cons] at hk hs
    have ih := fun c : Int => L62_eqn hl (line := line) (tx := tx) hq (bare := bare) (pd := pd) m (i + 1) k (app s [c]) h5 (by omega) (by simp [app]; omega)
    show br _ (chk _ (obnd (F25 (rd y3 l (i : Int), (q : Int), ())) _)) _ = _
    rw [h1, h2, h3, F25_eqn, onI_nat hq]
    show br (lvl q x) (chk (fits s [35]) ((L6_2 k) (l, line, tx, (q : Int), app s [35], iadd .i64 (i : Int) 1, bare, pd, ()))) (chk (fits s [95]) ((L6_2 k) (l, line, tx, (q : Int), app s [95], iadd .i64 (i : Int) 1, bare, pd, ()))) = _
    rw [h4, fits_t (by simp; omega), fits_t (by simp; omega), chk_t, chk_t, ih 35, ih 95]
    simp only [lineI, List.map_cons, app, List.append_assoc]
    cases lvl q x <;> rfl
  | _, _, 0, _, _, hk, _ => by omega

def textN (l : List Rec) : Nat → List Int
  | 0 => []
  | n + 1 => app (textN l n) (rowI l n)
theorem textN_len (l : List Rec) : ∀ n, n ≤ 7 → (textN l n).length = n * (l.length + 6)
  | 0, _ => by simp [textN]
  | n + 1, h => by
    have := textN_len l n (by omega)
    have h2 := rowI_len l (i := n) (by omega)
    simp only [textN, app, List.length_append, this, h2, Nat.add_mul]
    omega

theorem L60_go {l : List Rec} (hl : l.length < 100000) {line : Int} {bare : List Rec} {q : Nat} (hq : q < 7) {k : Nat} : L6_0 (k + 1) (l, line, textN l q, (q : Int), bare, pads, ()) = L6_0 k (l, line, textN l (q + 1), ((q + 1 : Nat) : Int), bare, pads, ()) := by
  have e := L62_eqn (by omega) (line := line) (tx := textN l q) hq (bare := bare) (pd := pads) l 0 fuel [] rfl (by unfold fuel; omega) (by simp; omega)
  have e26 := F26_eqn hq (l := l) (by omega)
  have hll := lineI_len q l
  have hp : (rd Ty.str pads (Int.ofNat (tn (q : Int)))) = pads.getD q [] := rfl
  have hpl : (pads.getD q []).length = 5 := by
    have hcs : q = 0 ∨ q = 1 ∨ q = 2 ∨ q = 3 ∨ q = 4 ∨ q = 5 ∨ q = 6 := by omega
    rcases hcs with rfl | rfl | rfl | rfl | rfl | rfl | rfl <;> rfl
  have htl : (textN l q).length ≤ 7 * (l.length + 6) := by
    rw [textN_len l q (by omega)]
    exact Nat.mul_le_mul_right _ (by omega)
  show br (ilt (q : Int) 7) (obnd (L6_2 fuel (l, line, textN l q, (q : Int), [], 0, bare, pads, ())) _) _ = _
  rw [ilt_t (by omega), show L6_2 fuel (l, line, textN l q, (q : Int), [], 0, bare, pads, ()) = _ from e]
  show obnd (F26 ((q : Int), l, ())) (fun y => br (bnot (seq y.1 ([] ++ lineI q l))) _ (chk (inb (q : Int) 7) (chk (fits (rd Ty.str pads (Int.ofNat (tn (q : Int)))) ([] ++ lineI q l)) (chk (fits (app (rd Ty.str pads (Int.ofNat (tn (q : Int)))) ([] ++ lineI q l)) [10]) (chk (fits (textN l q) (app (app (rd Ty.str pads (Int.ofNat (tn (q : Int)))) ([] ++ lineI q l)) [10]))
    ((L6_0 k) (l, line, app (textN l q) (app (app (rd Ty.str pads (Int.ofNat (tn (q : Int)))) ([] ++ lineI q l)) [10]), iadd .i64 (q : Int) 1, bare, pads, ()))))))) = _
  obtain ⟨pg, hpg⟩ : ∃ pg, pads.getD q [] = pg := ⟨_, rfl⟩
  rw [e26, List.nil_append, hp]
  show br (bnot (seq (lineI q l) (lineI q l))) _ (chk (inb (q : Int) 7) (chk (fits (pads.getD q []) (lineI q l)) (chk (fits (app (pads.getD q []) (lineI q l)) [10]) (chk (fits (textN l q) (app (app (pads.getD q []) (lineI q l)) [10])) ((L6_0 k) (l, line, app (textN l q) (app (app (pads.getD q []) (lineI q l)) [10]), iadd .i64 (q : Int) 1, bare, pads, ())))))) = _
  rw [hpg] at hpl ⊢
  rw [show seq (lineI q l) (lineI q l) = true from by simp [seq], inb_t (by omega) (by omega), fits_t (by omega), fits_t (by simp [app]; omega), fits_t (by simp [app]; omega), iadd64 (by omega) (by omega), ← hpg]
  rfl

theorem L60_eqn {l : List Rec} (hl : l.length < 100000) {line : Int} : L6_0 fuel (l, line, [], 0, [], pads, ()) = some (.out (l, line, textI l, [], ())) := by
  obtain ⟨k, hk⟩ : ∃ k, fuel = k + 1 + 1 + 1 + 1 + 1 + 1 + 1 + 1 := ⟨1099511627768, rfl⟩
  rw [hk]
  show L6_0 _ (l, line, textN l 0, ((0 : Nat) : Int), [], pads, ()) = _
  rw [L60_go hl (by omega), L60_go hl (by omega), L60_go hl (by omega), L60_go hl (by omega), L60_go hl (by omega), L60_go hl (by omega), L60_go hl (by omega)]
  rfl

def bareI (x : Rec) : Rec := (0, 0, x.2.2)
def lineG (line : Int) (m : List Rec) : List Int := m.map fun x => sg (onI line x)
/-- what is on ahead of a place -/
def prevI (line : Int) (l : List Rec) (i : Nat) : Bool := match i with
  | 0 => false
  | i + 1 => onI line (rd y3 l (i : Int))

theorem sg35 (b : Bool) : (sg b == 35) = b := by cases b <;> rfl
theorem sg95 (b : Bool) : (sg b == 95) = !b := by cases b <;> rfl

theorem L64_eqn {l : List Rec} (hl : l.length < 1000000) {line : Int} {tx : List Int} : ∀ (m : List Rec) (i k : Nat) (r h : Int) (bare : List Rec), l.drop i = m → m.length < k → 0 ≤ r → r + m.length < 10000000 → 0 ≤ h → h + m.length < 10000000 → bare.length + m.length < 10000000 →
    L6_4 k (l, line, tx, r, h, (i : Int), bare, ()) = some (.out (l, line, tx, r + cnt2 95 35 (sg (prevI line l i) :: lineG line m), h + cntI (lineG line m) 35, bare ++ m.map bareI, ()))
  | [], i, k + 1, r, h, bare, hd, hk, hr, hr2, hh, hh2, hb => by
    show br _ _ _ = _
    rw [at_nil hd]
    show some (LR.out (l, line, tx, r, h, bare, ())) = some (LR.out (l, line, tx, r + 0, h + 0, bare ++ [], ()))
    rw [Int.add_zero, Int.add_zero, List.append_nil]
  | x :: m, i, k + 1, r, h, bare, hd, hk, hr, hr2, hh, hh2, hb => by
    obtain ⟨h1, h2, h3, h4, h5⟩ := at_cons y3 hd (by omega)
    simp only [List.length_cons] at hk hr2 hh2 hb
    have ih := fun (r h : Int) (a1 : 0 ≤ r) (a2 : r + m.length < 10000000) (a3 : 0 ≤ h) (a4 : h + m.length < 10000000) => L64_eqn hl (line := line) (tx := tx) m (i + 1) k r h (app bare [bareI x]) h5 (by omega) a1 a2 a3 a4 (by simp [app]; omega)
    have hpv : prevI line l (i + 1) = onI line x := by
      show onI line (rd y3 l (i : Int)) = _
      rw [h3]
    have ec2 : cnt2 95 35 (sg (prevI line l i) :: lineG line (x :: m)) = bif !(prevI line l i) && onI line x then cnt2 95 35 (sg (onI line x) :: lineG line m) + 1 else cnt2 95 35 (sg (onI line x) :: lineG line m) := by
      show (bif (sg (prevI line l i) == 95) && (sg (onI line x) == 35) then _ else _) = _
      rw [sg35, sg95]
      rfl
    have ec : cntI (lineG line (x :: m)) 35 = bif onI line x then cntI (lineG line m) 35 + 1 else cntI (lineG line m) 35 := by
      show cntI (sg (onI line x) :: lineG line m) 35 = _
      rw [cnt_cons, sg35]
    have eb : bare ++ (x :: m).map bareI = app bare [bareI x] ++ m.map bareI := by simp [app]
    rw [ec2, ec, eb]
    have er : iadd .i64 r 1 = r + 1 := iadd64 (by omega) (by omega)
    have eh : iadd .i64 h 1 = h + 1 := iadd64 (by omega) (by omega)
    show br (ilt (i : Int) (len l)) (chk (inb (i : Int) (len l)) (chk (fits bare [(0, 0, (rd y3 l (i : Int)).2.2)]) (chk (inb (i : Int) (len l)) (obnd (F25 (rd y3 l (i : Int), line, ())) fun y => br y.1 (br (ieq (i : Int) 0) ((L6_4 k) (l, line, tx, iadd .i64 r 1, iadd .i64 h 1, iadd .i64 (i : Int) 1, app bare [(0, 0, (rd y3 l (i : Int)).2.2)], ()))
      (chk (inb (isub .i64 (i : Int) 1) (len l)) (obnd (F25 (rd y3 l (isub .i64 (i : Int) 1), line, ())) fun y_1 => br (bnot y_1.1) ((L6_4 k) (l, line, tx, iadd .i64 r 1, iadd .i64 h 1, iadd .i64 (i : Int) 1, app bare [(0, 0, (rd y3 l (i : Int)).2.2)], ())) ((L6_4 k) (l, line, tx, r, iadd .i64 h 1, iadd .i64 (i : Int) 1, app bare [(0, 0, (rd y3 l (i : Int)).2.2)], ())))))
      ((L6_4 k) (l, line, tx, r, h, iadd .i64 (i : Int) 1, app bare [(0, 0, (rd y3 l (i : Int)).2.2)], ())))))) _ = _
    rw [h1, h2, h3, h4, er, eh, fits_t (by simp; omega), F25_eqn]
    simp only [br_t, chk_t, obnd_s]
    rw [show ((0, 0, x.2.2) : Rec) = bareI x from rfl]
    rw [ih (r + 1) (h + 1) (by omega) (by omega) (by omega) (by omega), ih r (h + 1) (by omega) (by omega) (by omega) (by omega), ih r h (by omega) (by omega) (by omega) (by omega), hpv]
    obtain ⟨X, hX⟩ : ∃ X, cnt2 95 35 (sg (onI line x) :: lineG line m) = X := ⟨_, rfl⟩
    obtain ⟨Y, hY⟩ : ∃ Y, cntI (lineG line m) 35 = Y := ⟨_, rfl⟩
    rw [hX, hY]
    cases hon : onI line x with
    | false =>
      rw [Bool.and_false]
      rfl
    | true =>
      rw [Bool.and_true]
      have a2 : h + 1 + Y = h + (Y + 1) := by omega
      have a1 : r + 1 + X = r + (X + 1) := by omega
      rw [a1, a2]
      cases i with
      | zero =>
        rw [show ieq ((0 : Nat) : Int) 0 = true from rfl]
        rfl
      | succ j =>
        have hjl : j + 1 < l.length := by
          rcases Nat.lt_or_ge (j + 1) l.length with h6 | h6
          · omega
          · rw [List.drop_eq_nil_of_le h6] at hd; cases hd
        rw [ieq_f (by omega)]
        have ej : isub .i64 ((j + 1 : Nat) : Int) 1 = (j : Int) := by rw [isub64 (by omega) (by omega)]; omega
        rw [ej, inb_t (by omega) (by unfold len; omega), F25_eqn]
        rw [show prevI line l (j + 1) = onI line (rd y3 l (j : Int)) from rfl]
        cases onI line (rd y3 l (j : Int)) <;> rfl
  | _, _, 0, _, _, _, _, hk, _, _, _, _, _ => by omega
end W
end Go.SX
