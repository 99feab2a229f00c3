/- SliceCuts, the plain law, part 2: what is told of a part. -/
import Derived.Test.YtamhndcofojppaaSxLawA
import Derived.Test.YtamhndcofojppaaSxC
namespace Go.SX
namespace W
set_option linter.unusedVariables false
set_option linter.unusedSimpArgs false

def fl (x : Rec) : Bool := x.2.2.2.2.2.2.2.2.1
def qs (x : Rec) : Bool := bif fl x then (bif x.2.2.2.2.1 then bnot x.2.2.2.1 else false) else false
def qd (x : Rec) : Bool := bif fl x then bnot x.2.2.1 else false

def cnt : Int → List Rec → Int
  | c, [] => c
  | c, x :: m => bif fl x then cnt (iadd .i64 c 1) m else cnt c m
def fst (q : Rec → Bool) : Int → Bool → List Rec → Int × Bool
  | a, b, [] => (a, b)
  | a, b, x :: m => bif q x then (bif b then fst q a b m else fst q x.1 true m) else fst q a b m
def flt (q : Rec → Bool) : List Rec → List Rec → List Rec
  | s, [] => s
  | s, x :: m => bif q x then flt q (app s [x]) m else flt q s m

theorem fst_true (q : Rec → Bool) (a : Int) : ∀ m, fst q a true m = (a, true)
  | [] => rfl
  | x :: m => by
    show (bif q x then (bif true then fst q a true m else fst q x.1 true m) else fst q a true m) = _
    rw [fst_true q a m]
    cases q x <;> rfl
theorem fst_false (q : Rec → Bool) (a : Int) : ∀ m, (fst q a false m).2 = false → fst q a false m = (a, false)
  | [], _ => rfl
  | x :: m, h => by
    unfold fst at h ⊢
    cases hq : q x with
    | true =>
      rw [hq] at h
      have h' : (fst q x.1 true m).2 = false := h
      rw [fst_true] at h'
      cases h'
    | false =>
      rw [hq] at h
      exact fst_false q a m h

theorem flt_len (q : Rec → Bool) : ∀ (m s : List Rec), (flt q s m).length ≤ s.length + m.length
  | [], s => by simp [flt]
  | x :: m, s => by
    unfold flt
    cases q x with
    | true => have := flt_len q m (app s [x]); simp [app] at this ⊢; omega
    | false => have := flt_len q m s; simp at this ⊢; omega

section
variable {l : List Rec} (hl : l.length < 4000000)

theorem L23_eqn (hl : l.length < 4000000) : ∀ (m : List Rec) (i k : Nat) (c : Int), l.drop i = m → m.length < k → L23_0 k (c, l, len l, (i : Int), ()) = some (.out (cnt c m, ()))
  | [], i, k + 1, c, h, hk => by
    show br _ _ _ = _
    rw [at_nil h]; rfl
  | x :: m, i, k + 1, c, h, hk => by
    obtain ⟨h1, h2, h3, h4, h5⟩ := at_cons y3 h (by omega)
    simp only [List.length_cons] at hk
    show br _ (chk _ (br _ _ _)) _ = some (LR.out ((bif fl x then cnt (iadd .i64 c 1) m else cnt c m), ()))
    rw [h1, h2, h3, h4]
    simp only [br_t, chk_t]
    rw [show x.2.2.2.2.2.2.2.2.1 = fl x from rfl]
    cases fl x
    · exact L23_eqn hl m (i + 1) k c h5 (by omega)
    · exact L23_eqn hl m (i + 1) k _ h5 (by omega)
  | _, _, 0, _, _, hk => by omega

theorem F23_eqn (p : Prt) (hl : @List.length Rec p.1 < 4000000) : F23 (p, ()) = some (cnt 0 p.1, ()) := by
  have e := L23_eqn hl p.1 0 fuel 0 rfl (by unfold fuel; omega)
  show obnd (L23_0 fuel (0, p.1, len p.1, 0, ())) _ = _
  rw [show L23_0 fuel (0, p.1, len p.1, 0, ()) = _ from e]
  rfl

theorem L20_eqn (hl : l.length < 4000000) : ∀ (m : List Rec) (i k : Nat), l.drop i = m → m.length < k → L20_0 k (l, len l, (i : Int), ()) = bif (fst fl 0 false m).2 then some (LR.ret ((fst fl 0 false m).1, true, ())) else some (LR.out ())
  | [], i, k + 1, h, hk => by
    show br _ _ _ = _
    rw [at_nil h]; rfl
  | x :: m, i, k + 1, h, hk => by
    obtain ⟨h1, h2, h3, h4, h5⟩ := at_cons y3 h (by omega)
    simp only [List.length_cons] at hk
    show br _ (chk _ (br _ _ _)) _ = _
    rw [h1, h2, h3, h4]
    simp only [br_t, chk_t]
    unfold fst
    rw [show x.2.2.2.2.2.2.2.2.1 = fl x from rfl]
    cases fl x
    · exact L20_eqn hl m (i + 1) k h5 (by omega)
    · show _ = bif (fst fl x.1 true m).2 then some (LR.ret ((fst fl x.1 true m).1, true, ())) else some (LR.out ())
      rw [fst_true]
      rfl
  | _, _, 0, _, hk => by omega

theorem F20_eqn (p : Prt) (hl : @List.length Rec p.1 < 4000000) : F20 (p, ()) = some ((fst fl 0 false p.1).1, (fst fl 0 false p.1).2, ()) := by
  have e := L20_eqn hl p.1 0 fuel rfl (by unfold fuel; omega)
  show obnd (L20_0 fuel (p.1, len p.1, 0, ())) _ = _
  rw [show L20_0 fuel (p.1, len p.1, 0, ()) = _ from e]
  cases h : (fst fl 0 false p.1).2
  · rw [fst_false fl 0 _ h]; rfl
  · rfl

theorem L21_eqn (hl : l.length < 4000000) : ∀ (m : List Rec) (i k : Nat), l.drop i = m → m.length < k → L21_0 k (l, len l, (i : Int), ()) = bif (fst qs 0 false m).2 then some (LR.ret ((fst qs 0 false m).1, true, ())) else some (LR.out ())
  | [], i, k + 1, h, hk => by
    show br _ _ _ = _
    rw [at_nil h]; rfl
  | x :: m, i, k + 1, h, hk => by
    obtain ⟨h1, h2, h3, h4, h5⟩ := at_cons y3 h (by omega)
    simp only [List.length_cons] at hk
    have ih := L21_eqn hl m (i + 1) k h5 (by omega)
    show br _ (chk _ (br _ (br _ (br _ _ _) _) _)) _ = _
    rw [h1, h2, h3, h4]
    simp only [br_t, chk_t]
    unfold fst
    rw [show qs x = bif fl x then (bif x.2.2.2.2.1 then bnot x.2.2.2.1 else false) else false from rfl]
    rw [show x.2.2.2.2.2.2.2.2.1 = fl x from rfl]
    cases fl x
    · exact ih
    · cases x.2.2.2.2.1
      · exact ih
      · cases x.2.2.2.1
        · show _ = bif (fst qs x.1 true m).2 then some (LR.ret ((fst qs x.1 true m).1, true, ())) else some (LR.out ())
          rw [fst_true]
          rfl
        · exact ih
  | _, _, 0, _, hk => by omega

theorem F21_eqn (p : Prt) (hl : @List.length Rec p.1 < 4000000) : F21 (p, ()) = some ((fst qs 0 false p.1).1, (fst qs 0 false p.1).2, ()) := by
  have e := L21_eqn hl p.1 0 fuel rfl (by unfold fuel; omega)
  show obnd (L21_0 fuel (p.1, len p.1, 0, ())) _ = _
  rw [show L21_0 fuel (p.1, len p.1, 0, ()) = _ from e]
  cases h : (fst qs 0 false p.1).2
  · rw [fst_false qs 0 _ h]; rfl
  · rfl

theorem L25_eqn (hl : l.length < 4000000) : ∀ (m : List Rec) (i k : Nat) (s : List Rec), l.drop i = m → m.length < k → s.length + m.length < 4000000 → L25_0 k (l, len l, (i : Int), s, ()) = some (.out (flt qd s m, ()))
  | [], i, k + 1, s, h, hk, hs => by
    show br _ _ _ = _
    rw [at_nil h]; rfl
  | x :: m, i, k + 1, s, h, hk, hs => by
    obtain ⟨h1, h2, h3, h4, h5⟩ := at_cons y3 h (by omega)
    simp only [List.length_cons] at hk hs
    show br _ (chk _ (br _ (br _ (chk _ _) _) _)) _ = _
    rw [h1, h2, h3, h4, fits_t (by simp; omega)]
    simp only [br_t, chk_t]
    unfold flt
    rw [show qd x = bif fl x then bnot x.2.2.1 else false from rfl]
    rw [show x.2.2.2.2.2.2.2.2.1 = fl x from rfl]
    cases fl x
    · exact L25_eqn hl m (i + 1) k s h5 (by omega) (by omega)
    · cases x.2.2.1
      · exact L25_eqn hl m (i + 1) k _ h5 (by omega) (by simp [app]; omega)
      · exact L25_eqn hl m (i + 1) k s h5 (by omega) (by omega)
  | _, _, 0, _, _, hk, _ => by omega

theorem F25_eqn (p : Prt) (hl : @List.length Rec p.1 < 4000000) : F25 (p, ()) = some (flt qd [] p.1, ()) := by
  have e := L25_eqn hl p.1 0 fuel [] rfl (by unfold fuel; omega) (by simp; omega)
  show obnd (L25_0 fuel (p.1, len p.1, 0, [], ())) _ = _
  rw [show L25_0 fuel (p.1, len p.1, 0, [], ()) = _ from e]
  rfl

theorem eqD_y3 (x : Rec) : eqD y3 x x = true := by
  obtain ⟨a, b, c, d, e, f, g, h, i, u⟩ := x
  simp [eqD]

theorem L13_eqn (hl : l.length < 4000000) : ∀ (m : List Rec) (i k : Nat), l.drop i = m → m.length < k → L13_0 k (l, l, len l, (i : Int), ()) = some (.out ())
  | [], i, k + 1, h, hk => by
    show br _ _ _ = _
    rw [at_nil h]; rfl
  | x :: m, i, k + 1, h, hk => by
    obtain ⟨h1, h2, h3, h4, h5⟩ := at_cons y3 h (by omega)
    simp only [List.length_cons] at hk
    show br _ (chk _ (chk _ (br (bnot (eqD y3 _ _)) _ _))) _ = _
    rw [h1, h2, h3, h4, eqD_y3]
    simp only [br_t, chk_t]
    exact L13_eqn hl m (i + 1) k h5 (by omega)
  | _, _, 0, _, hk => by omega

theorem F13_eqn (hl : l.length < 4000000) : F13 (l, l, ()) = some (true, ()) := by
  have e := L13_eqn hl l 0 fuel rfl (by unfold fuel; omega)
  show br (bnot (ieq (len l) (len l))) _ (obnd (L13_0 fuel (l, l, len l, 0, ())) _) = _
  rw [show L13_0 fuel (l, l, len l, 0, ()) = _ from e, ieq_t rfl]
  rfl

theorem L12_eqn {p : Prt} (hp : (show List Rec from p.1) = l) (hl : l.length < 4000000) : ∀ (m : List Rec) (i k : Nat) (c a b : Int) (s t : Bool) (ds : List Rec), l.drop i = m → m.length < k → ds.length + m.length < 4000000 →
    L12_0 k (c, a, b, s, t, (i : Int), ds, p, ()) = some (.out (cnt c m, (fst fl a s m).1, (fst qs b t m).1, (fst fl a s m).2, (fst qs b t m).2, flt qd ds m, p, ()))
  | [], i, k + 1, c, a, b, s, t, ds, h, hk, hs => by
    obtain ⟨p1, p2⟩ := p
    cases (show p1 = l from hp)
    show br _ _ _ = _
    rw [at_nil h]; rfl
  | x :: m, i, k + 1, c, a, b, s, t, ds, h, hk, hs => by
    have ih := L12_eqn hp hl m (i + 1) k
    obtain ⟨h1, h2, h3, h4, h5⟩ := at_cons y3 h (by omega)
    simp only [List.length_cons] at hk hs
    have ih := fun c a b s t ds hs => ih c a b s t ds h5 (by omega) hs
    obtain ⟨p1, p2⟩ := p
    cases (show p1 = l from hp)
    show br _ (chk _ (br _ _ (br _ (br _ (br _ (br _ (br _ (chk _ _) _) (br _ (chk _ _) _)) (br _ (chk _ _) _)) (br _ (chk _ _) _)) (br _ (br _ (br _ (br _ (chk _ _) _) (br _ (chk _ _) _)) (br _ (chk _ _) _)) (br _ (chk _ _) _))))) _ = _
    rw [h1, h2, h3, h4, fits_t (by simp; omega)]
    simp only [br_t, chk_t]
    unfold cnt fst flt
    rw [show qd x = bif fl x then bnot x.2.2.1 else false from rfl, show qs x = bif fl x then (bif x.2.2.2.2.1 then bnot x.2.2.2.1 else false) else false from rfl]
    rw [show x.2.2.2.2.2.2.2.2.1 = fl x from rfl]
    have hs1 : ds.length + m.length < 4000000 := by omega
    have hs2 : (app ds [x]).length + m.length < 4000000 := by simp [app]; omega
    cases fl x
    · exact ih c a b s t ds hs1
    · cases s <;> cases t <;> cases x.2.2.1 <;> cases x.2.2.2.1 <;> cases x.2.2.2.2.1 <;> first | exact ih _ _ _ _ _ _ hs1 | exact ih _ _ _ _ _ _ hs2
  | _, _, 0, _, _, _, _, _, _, _, hk, _ => by omega

/-- all that is told of a part holds -/
theorem F12_eqn (p : Prt) (hl : @List.length Rec p.1 < 4000000) (hok : ∀ x ∈ (show List Rec from p.1), OkD y3 x) : F12 (p, ()) = some (true, ()) := by
  have e := L12_eqn (p := p) rfl hl p.1 0 fuel 0 0 0 false false [] rfl (by unfold fuel; omega) (by simp; omega)
  obtain ⟨tx, e22, n22⟩ := F22_some hl hok
  have e20 := F20_eqn p hl
  have e21 := F21_eqn p hl
  have e23 := F23_eqn p hl
  have e25 := F25_eqn p hl
  have hfl : (flt qd [] p.1).length < 4000000 := by have := flt_len qd p.1 []; simp at this; omega
  have e13 := F13_eqn hfl
  have e24 : F24 (p, ()) = some (isub .i64 (len p.1) (cnt 0 p.1), ()) := by
    show obnd (F23 (p, ())) _ = _
    rw [e23]; rfl
  have hfit : fits tx [45, 10] = true := fits_t (by rw [n22]; simp; omega)
  have e26 : F26 (p, ()) = some (bif p.2.1 then app tx [45, 10] else tx, ()) := by
    show obnd (F22 (p.1, ())) _ = _
    rw [show F22 (p.1, ()) = _ from e22]
    simp only [obnd_s]
    rw [hfit]
    cases p.2.1 <;> rfl
  show obnd (L12_0 fuel (0, 0, 0, false, false, 0, [], p, ())) _ = _
  rw [show L12_0 fuel (0, 0, 0, false, false, 0, [], p, ()) = _ from e]
  have r0 : ∀ x : Int, ieq x x = true := fun x => ieq_t rfl
  have r1 : ∀ x : Bool, beqb x x = true := fun x => by cases x <;> rfl
  have r2 : ∀ x : List Int, seq x x = true := fun x => by simp [seq]
  show obnd (F20 (p, PUnit.unit)) _ = _
  rw [e20]
  show obnd (F21 (p, PUnit.unit)) _ = _
  rw [e21]
  show obnd (F22 (p.1, PUnit.unit)) _ = _
  rw [show F22 (p.1, PUnit.unit) = _ from e22]
  show br p.2.1 (chk (fits tx [45, 10]) _) _ = _
  rw [hfit]
  cases hb : p.2.1
  all_goals
    show obnd (F23 (p, PUnit.unit)) _ = _
    rw [e23]
    show br (ieq _ _) _ _ = _
    rw [r0]
    show obnd (F24 (p, PUnit.unit)) _ = _
    rw [e24]
    show br (ieq _ _) _ _ = _
    rw [r0]
    show br (ieq _ _) _ _ = _
    rw [r0]
    show br (beqb _ _) _ _ = _
    rw [r1]
    show br (ieq _ _) _ _ = _
    rw [r0]
    show br (beqb _ _) _ _ = _
    rw [r1]
    show obnd (F25 (p, PUnit.unit)) _ = _
    rw [e25]
    show obnd (F13 (flt qd [] p.1, flt qd [] p.1, PUnit.unit)) _ = _
    rw [show F13 (flt qd [] p.1, flt qd [] p.1, PUnit.unit) = _ from e13]
    show obnd (F26 (p, PUnit.unit)) _ = _
    rw [e26, hb]
    show some (seq _ _, PUnit.unit) = _
    exact congrArg (fun b => some (b, PUnit.unit)) (r2 _)

end
end W
end Go.SX
