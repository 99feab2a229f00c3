/- SliceCuts, the plain law, part 3: the cut; the whole. -/
import Derived.Test.YtamhndcofojppaaSxLawB
namespace Go.SX
namespace W
set_option linter.unusedVariables false
set_option linter.unusedSimpArgs false

/-- does a part end here? -/
def fe (x : Rec) : Bool := bif fl x then x.2.2.2.2.2.1 else false

def cutP : List Prt → List Rec → List Rec → List Prt × List Rec
  | ps, c, [] => (ps, c)
  | ps, c, x :: m => bif fe x then cutP (app ps [(app c [x], true, ())]) [] m else cutP ps (app c [x]) m

theorem L11_eqn {l : List Rec} (hl : l.length < 4000000) : ∀ (m : List Rec) (i k : Nat) (ps : List Prt) (c : List Rec), l.drop i = m → m.length < k → ps.length + m.length < 4000000 → c.length + m.length < 4000000 →
    L11_0 k (l, len l, (i : Int), ps, c, ()) = some (LR.out ((cutP ps c m).1, (cutP ps c m).2, ()))
  | [], i, k + 1, ps, c, h, hk, hp, hc => by
    show br _ _ _ = _
    rw [at_nil h]; rfl
  | x :: m, i, k + 1, ps, c, h, hk, hp, hc => by
    obtain ⟨h1, h2, h3, h4, h5⟩ := at_cons y3 h (by omega)
    simp only [List.length_cons] at hk hp hc
    have e1 := L11_eqn hl m (i + 1) k (app ps [(app c [x], true, ())]) [] h5 (by omega) (by simp [app]; omega) (by simp; omega)
    have e2 := L11_eqn hl m (i + 1) k ps (app c [x]) h5 (by omega) (by omega) (by simp [app]; omega)
    show br _ (chk _ (chk _ (br (fl _) (br _ (chk _ _) _) _))) _ = some (LR.out ((bif fe x then cutP (app ps [(app c [x], true, ())]) [] m else cutP ps (app c [x]) m).1, (bif fe x then cutP (app ps [(app c [x], true, ())]) [] m else cutP ps (app c [x]) m).2, ()))
    rw [h1, h2, h3, h4, fits_t (by simp; omega), fits_t (by simp; omega)]
    simp only [br_t, chk_t]
    rw [show fe x = bif fl x then x.2.2.2.2.2.1 else false from rfl]
    cases fl x
    · exact e2
    · cases x.2.2.2.2.2.1
      · exact e2
      · exact e1
  | _, _, 0, _, _, _, hk, _, _ => by omega

/-- the whole cut -/
def cutW (l : List Rec) : List Prt := bif ilt 0 (len (cutP [] [] l).2) then app (cutP [] [] l).1 [((cutP [] [] l).2, false, ())] else (cutP [] [] l).1

/-- of a part: only its last ends it, if it is one that ended -/
def Gd (e : Bool) : List Rec → Prop
  | [] => True
  | x :: m => fe x = (e && m.isEmpty) ∧ Gd e m

theorem Gd.snoc {e : Bool} {x : Rec} (hx : fe x = e) : ∀ {c : List Rec}, Gd false c → Gd e (c ++ [x])
  | [], _ => ⟨by simp [hx], trivial⟩
  | y :: c, h => ⟨by rw [h.1]; simp, Gd.snoc hx h.2⟩

def recs : List Prt → List Rec
  | [] => []
  | p :: ps => (p.1 : List Rec) ++ recs ps
theorem recs_app (a b : List Prt) : recs (a ++ b) = recs a ++ recs b := by
  induction a with
  | nil => rfl
  | cons p a ih => simp [recs, ih]

structure Good (ok : Rec → Prop) (p : Prt) : Prop where
  ne : (p.1 : List Rec) ≠ []
  gd : Gd p.2.1 p.1

theorem cutP_spec : ∀ (m : List Rec) (ps : List Prt) (c : List Rec), (∀ p ∈ ps, Good (fun _ => True) p ∧ p.2.1 = true) → Gd false c →
    (∀ p ∈ (cutP ps c m).1, Good (fun _ => True) p ∧ p.2.1 = true) ∧ Gd false (cutP ps c m).2 ∧ recs (cutP ps c m).1 ++ (cutP ps c m).2 = recs ps ++ (c ++ m) ∧ (cutP ps c m).1.length ≤ ps.length + m.length
  | [], ps, c, h1, h2 => ⟨h1, h2, by simp [cutP], by simp [cutP]⟩
  | x :: m, ps, c, h1, h2 => by
    unfold cutP
    cases hx : fe x with
    | true =>
      obtain ⟨a1, a2, a3, a4⟩ := cutP_spec m (app ps [(app c [x], true, ())]) [] (fun p hp => by
        rcases List.mem_append.1 hp with hp | hp
        · exact h1 p hp
        · rw [List.mem_singleton] at hp
          subst hp
          exact ⟨⟨by simp [app], Gd.snoc hx h2⟩, rfl⟩) trivial
      refine ⟨a1, a2, ?_, ?_⟩
      · show recs (cutP (app ps [(app c [x], true, ())]) [] m).1 ++ (cutP (app ps [(app c [x], true, ())]) [] m).2 = _
        rw [a3]
        unfold app
        rw [recs_app]
        simp [recs]
      · show (cutP (app ps [(app c [x], true, ())]) [] m).1.length ≤ _
        simp [app] at a4 ⊢
        omega
    | false =>
      obtain ⟨a1, a2, a3, a4⟩ := cutP_spec m ps (app c [x]) h1 (Gd.snoc hx h2)
      refine ⟨a1, a2, ?_, ?_⟩
      · show recs (cutP ps (app c [x]) m).1 ++ (cutP ps (app c [x]) m).2 = _
        rw [a3]
        simp [app]
      · show (cutP ps (app c [x]) m).1.length ≤ _
        simp at a4 ⊢
        omega

theorem F11_eqn {l : List Rec} (hl : l.length < 2000000) : F11 (l, ()) = some (cutW l, ()) := by
  have e := L11_eqn (l := l) (by omega) l 0 fuel [] [] rfl (by unfold fuel; omega) (by simp; omega) (by simp; omega)
  obtain ⟨_, _, _, a4⟩ := cutP_spec l [] [] (fun p hp => by cases hp) trivial
  show obnd (L11_0 fuel (l, len l, 0, [], [], ())) _ = _
  rw [show L11_0 fuel (l, len l, 0, [], [], ()) = _ from e]
  show br (ilt 0 (len (cutP [] [] l).2)) (chk (fits (cutP [] [] l).1 _) _) _ = _
  rw [fits_t (by simp at a4 ⊢; omega)]
  unfold cutW
  cases ilt 0 (len (cutP [] [] l).2) <;> rfl

/-- all but the last have ended -/
def Ends : List Prt → Prop
  | [] => True
  | p :: ps => (p.2.1 = true ∨ ps = []) ∧ Ends ps

theorem ends_all : ∀ (ps : List Prt), (∀ p ∈ ps, p.2.1 = true) → Ends ps
  | [], _ => trivial
  | p :: ps, h => ⟨.inl (h p List.mem_cons_self), ends_all ps fun q hq => h q (List.mem_cons_of_mem _ hq)⟩
theorem ends_snoc (q : Prt) : ∀ (ps : List Prt), (∀ p ∈ ps, p.2.1 = true) → Ends (ps ++ [q])
  | [], _ => ⟨.inr rfl, trivial⟩
  | p :: ps, h => ⟨.inl (h p List.mem_cons_self), ends_snoc q ps fun q hq => h q (List.mem_cons_of_mem _ hq)⟩

theorem cutW_spec (l : List Rec) : (∀ p ∈ cutW l, Good (fun _ => True) p) ∧ Ends (cutW l) ∧ recs (cutW l) = l ∧ (cutW l).length ≤ l.length + 1 := by
  obtain ⟨a1, a2, a3, a4⟩ := cutP_spec l [] [] (fun p hp => by cases hp) trivial
  unfold cutW
  generalize cutP [] [] l = r at *
  obtain ⟨ps, c⟩ := r
  simp only at *
  cases c with
  | nil =>
    refine ⟨fun p hp => (a1 p hp).1, ends_all _ fun p hp => (a1 p hp).2, ?_, ?_⟩
    · have a5 : recs ps = l := by simpa [recs] using a3
      exact a5
    · simp at a4 ⊢
      show ps.length ≤ _
      omega
  | cons x c =>
    have : ilt 0 (len (x :: c)) = true := ilt_t (by unfold len; simp)
    rw [this]
    refine ⟨fun p hp => ?_, ends_snoc _ _ fun p hp => (a1 p hp).2, ?_, ?_⟩
    · rcases List.mem_append.1 (show p ∈ ps ++ [(x :: c, false, ())] from hp) with hp | hp
      · exact (a1 p hp).1
      · rw [List.mem_singleton] at hp
        subst hp
        exact ⟨by simp, a2⟩
    · show recs (ps ++ [(x :: c, false, ())]) = l
      rw [recs_app]
      simpa [recs] using a3
    · show (ps ++ [(x :: c, false, ())]).length ≤ _
      simp at a4 ⊢
      exact a4

theorem L42_eqn {x0 : List Rec} {x5 : Int} {x3 : List Prt} {x4 : List Rec} {p : Prt} (hl : @List.length Rec p.1 < 4000000) : ∀ (m : List Rec) (i k : Nat), (p.1 : List Rec).drop i = m → m.length < k → Gd p.2.1 m →
    L4_2 k (x0, x5, (i : Int), x3, x4, p, ()) = some (LR.out (x0, x5, x3, x4, p, ()))
  | [], i, k + 1, h, hk, hg => by
    obtain ⟨p1, p2⟩ := p
    show br _ _ _ = _
    rw [at_nil h]; rfl
  | x :: m, i, k + 1, h, hk, hg => by
    obtain ⟨h1, h2, h3, h4, h5⟩ := at_cons y3 h (by omega)
    simp only [List.length_cons] at hk
    have ih := L42_eqn (x0 := x0) (x5 := x5) (x3 := x3) (x4 := x4) hl m (i + 1) k h5 (by omega) hg.2
    have hfe := hg.1
    have hm : ieq (((i + 1 : Nat)) : Int) (len p.1) = m.isEmpty := by
      cases m with
      | nil =>
        have := at_nil_eq h5
        have h6 : (p.1 : List Rec).length = i + 1 := by
          have := congrArg List.length h
          simp at this
          omega
        exact ieq_t (by unfold len; omega)
      | cons y m =>
        have := congrArg List.length h
        simp at this
        exact ieq_f (by unfold len; omega)
    show br _ (chk _ (br (fl _) (chk _ (br p.2.1 (br (bnot (beqb _ _)) _ _) (br (bnot (beqb _ _)) _ _))) (br p.2.1 (br (bnot (beqb _ _)) _ _) (br (bnot (beqb _ _)) _ _)))) _ = _
    rw [h1, h2, h3, h4, hm]
    simp only [br_t, chk_t]
    rw [show fe x = bif fl x then x.2.2.2.2.2.1 else false from rfl] at hfe
    revert hfe
    cases fl x
    · intro hfe
      cases hp : p.2.1
      · exact ih
      · rw [hp] at hfe
        rw [show m.isEmpty = false from by simpa using hfe.symm]
        exact ih
    · intro hfe
      rw [show x.2.2.2.2.2.1 = _ from hfe]
      cases hp : p.2.1
      · exact ih
      · have : beqb (true && m.isEmpty) m.isEmpty = true := by cases m.isEmpty <;> rfl
        rw [this]
        exact ih
  | _, _, 0, _, hk, _ => by omega

theorem L40_eqn {x0 : List Rec} {ps : List Prt} (hl : ps.length < 4000000) (hok : ∀ p ∈ ps, ∀ x ∈ (p.1 : List Rec), OkD y3 x) (hg : ∀ p ∈ ps, Good (fun _ => True) p) : ∀ (m : List Prt) (i k : Nat) (s : List Rec), ps.drop i = m → m.length < k → Ends m → s.length + (recs m).length < 4000000 →
    L4_0 k (x0, (i : Int), ps, s, ()) = some (LR.out (x0, app s (recs m), ()))
  | [], i, k + 1, s, h, hk, he, hs => by
    show br _ _ _ = _
    rw [at_nil h]
    show some (LR.out (x0, s, ())) = some (LR.out (x0, s ++ [], ()))
    rw [List.append_nil]
  | p :: m, i, k + 1, s, h, hk, he, hs => by
    obtain ⟨h1, h2, h3, h4, h5⟩ := at_cons y5 h (by omega)
    simp only [List.length_cons] at hk
    have hpm : p ∈ ps := List.drop_subset i ps (by rw [h]; exact List.mem_cons_self)
    simp only [recs, List.length_append] at hs
    have hpl : @List.length Rec p.1 < 4000000 := Nat.lt_of_le_of_lt (Nat.le_trans (Nat.le_add_right _ _) (Nat.le_add_left _ _)) hs
    have e12 := F12_eqn p hpl (hok p hpm)
    have e42 := L42_eqn (x0 := x0) (x5 := (i : Int)) (x3 := ps) (x4 := s) hpl p.1 0 fuel rfl (Nat.lt_trans hpl (by decide)) (hg p hpm).gd
    have hne : ieq (len p.1) 0 = false := ieq_f (fun e => (hg p hpm).ne (List.eq_nil_of_length_eq_zero (by unfold len at e; exact Int.ofNat.inj e)))
    have hlast : ilt (((i + 1 : Nat)) : Int) (len ps) = !m.isEmpty := by
      cases m with
      | nil => exact at_nil h5
      | cons q m => exact (at_cons y5 h5 (by omega)).1
    have ih := L40_eqn (x0 := x0) hl hok hg m (i + 1) k (app s p.1) h5 (by omega) he.2 (by show (s ++ p.1).length + _ < _; rw [List.length_append]; exact Nat.lt_of_le_of_lt (Nat.le_of_eq (Nat.add_assoc _ _ _)) hs)
    have hrec : app (app s p.1) (recs m) = app s (recs (p :: m)) := by simp [app, recs]
    rw [hrec] at ih
    have hfit : fits s p.1 = true := fits_t (Nat.lt_of_le_of_lt (Nat.le_trans (Nat.add_le_add_left (Nat.le_add_right _ _) _) (Nat.le_refl _)) (Nat.lt_trans hs (by decide)))
    have key : (obnd (F12 (p, PUnit.unit)) fun y => br (bnot y.1) (some (LR.ret (false, PUnit.unit)))
              (obnd (R4_2 (x0, (i : Int), 0, ps, s, p, PUnit.unit)) fun r =>
                lcase r (fun r_1 => some (LR.ret r_1)) fun b =>
                  chk (fits b.2.2.2.1 b.2.2.2.2.1.1) ((L4_0 k) (b.1, iadd IntKind.i64 b.2.1 1, b.2.2.1, app b.2.2.2.1 b.2.2.2.2.1.1, PUnit.unit)))) = some (LR.out (x0, app s (recs (p :: m)), ())) := by
      rw [e12]
      show obnd (L4_2 fuel (x0, (i : Int), 0, ps, s, p, PUnit.unit)) _ = _
      rw [show L4_2 fuel (x0, (i : Int), 0, ps, s, p, PUnit.unit) = _ from e42]
      show chk (fits s p.1) ((L4_0 k) (x0, iadd IntKind.i64 (i : Int) 1, ps, app s p.1, PUnit.unit)) = _
      rw [hfit, h4]
      exact ih
    show br _ (chk _ (br (ieq (len (rd y5 ps (i : Int)).1) 0) _ (br (bnot (rd y5 ps (i : Int)).2.1) (br (ilt (iadd .i64 (i : Int) 1) (len ps)) _ (obnd (F12 (rd y5 ps (i : Int), PUnit.unit)) _)) (obnd (F12 (rd y5 ps (i : Int), PUnit.unit)) _)))) _ = _
    rw [h1, h2, h4, hlast]
    simp only [br_t, chk_t]
    show br (ieq (len (rd y5 ps (i : Int)).1) 0) _ (br (bnot (rd y5 ps (i : Int)).2.1) (br (!m.isEmpty) _ (obnd (F12 (rd y5 ps (i : Int), PUnit.unit)) (fun y => br (bnot y.1) (some (LR.ret (false, PUnit.unit)))
              (obnd (R4_2 (x0, (i : Int), 0, ps, s, rd y5 ps (i : Int), PUnit.unit)) fun r =>
                lcase r (fun r_1 => some (LR.ret r_1)) fun b =>
                  chk (fits b.2.2.2.1 b.2.2.2.2.1.1) ((L4_0 k) (b.1, iadd IntKind.i64 b.2.1 1, b.2.2.1, app b.2.2.2.1 b.2.2.2.2.1.1, PUnit.unit)))))) (obnd (F12 (rd y5 ps (i : Int), PUnit.unit)) (fun y => br (bnot y.1) (some (LR.ret (false, PUnit.unit)))
              (obnd (R4_2 (x0, (i : Int), 0, ps, s, rd y5 ps (i : Int), PUnit.unit)) fun r =>
                lcase r (fun r_1 => some (LR.ret r_1)) fun b =>
                  chk (fits b.2.2.2.1 b.2.2.2.2.1.1) ((L4_0 k) (b.1, iadd IntKind.i64 b.2.1 1, b.2.2.1, app b.2.2.2.1 b.2.2.2.2.1.1, PUnit.unit)))))) = _
    rw [h3, hne, key]
    simp only [br_f]
    rcases he.1 with hq | hq
    · rw [hq]; rfl
    · rw [hq]; exact br_same
  | _, _, 0, _, _, hk, _, _ => by omega

theorem F14_eqn : F14 PUnit.unit = some (true, ()) := by kernel_rfl

/-- SliceCuts answers true -/
theorem F4_eqn (l : List Rec) (hok : ∀ x ∈ l, OkD y3 x) : F4 (l, ()) = some (true, ()) := by
  show br (ilt 200 (len l)) _ (obnd (F11 (l, PUnit.unit)) _) = _
  by_cases h : 200 < len l
  · rw [ilt_t h]; rfl
  · rw [ilt_f h]
    have hl : l.length ≤ 200 := by unfold len at h; omega
    obtain ⟨a1, a2, a3, a4⟩ := cutW_spec l
    have e11 := F11_eqn (l := l) (by omega)
    have hin : ∀ (ps : List Prt) (p : Prt), p ∈ ps → ∀ x ∈ (p.1 : List Rec), x ∈ recs ps := by
      intro ps
      induction ps with
      | nil => intro p hp; cases hp
      | cons q ps ih =>
        intro p hp x hx
        rcases List.mem_cons.1 hp with rfl | hp
        · exact List.mem_append_left _ hx
        · exact List.mem_append_right _ (ih p hp x hx)
    have e40 := L40_eqn (x0 := l) (ps := cutW l) (by omega) (fun p hp x hx => hok x (by rw [← a3]; exact hin _ p hp x hx)) a1 (cutW l) 0 fuel [] rfl (by unfold fuel; omega) a2 (by rw [a3]; simp; omega)
    rw [e11]
    show obnd (L4_0 fuel (l, 0, cutW l, [], PUnit.unit)) _ = _
    rw [show L4_0 fuel (l, 0, cutW l, [], PUnit.unit) = _ from e40, a3]
    show obnd (F13 (l, l, PUnit.unit)) _ = _
    rw [show F13 (l, l, PUnit.unit) = _ from F13_eqn (by omega)]
    show obnd (F14 PUnit.unit) _ = _
    rw [F14_eqn]
    rfl

end W
end Go.SX
