/- ListsTexts, the plain law, for every stack. -/
import Derived.Test.YtamhndcofojppaaDoorSxLaw
namespace Go.SX
namespace W
set_option linter.unusedVariables false
set_option linter.unusedSimpArgs false

theorem F8_no {s : Int} (h : s ≠ 3) : F8 (s, ()) = F8 (0, ()) := by
  show br (ieq s 3) _ _ = _
  rw [ieq_f h]
  rfl
theorem F4_no {s p : Int} (h : s ≠ 3) : F4 (p, s, ()) = F4 (p, 0, ()) := by
  show obnd (F8 (s, ())) _ = obnd (F8 (0, ())) _
  rw [F8_no h]
theorem F12_no {s : Int} {t : List Int} (h : s ≠ 3) : F12 (t, s, ()) = F12 (t, 0, ()) := by
  show br (seq t [68]) _ (obnd (F8 (s, ())) _) = br (seq t [68]) _ (obnd (F8 (0, ())) _)
  rw [F8_no h]
theorem L5_no {s : Int} (h : s ≠ 3) : ∀ (k : Nat) (x6 : Int) (x13 : List (List Int)) (x14 x15 : Int), L5_0 k (s, x6, x13, x14, x15, ()) = L5_0 k (0, x6, x13, x14, x15, ())
  | 0, _, _, _, _ => rfl
  | k + 1, x6, x13, x14, x15 => by
    show br (ilt x15 x14) (chk _ (obnd (F12 (rd Ty.str x13 x15, s, ())) fun y => br (ieq y.1 0) _ (br (bnot (ieq (iand IntKind.u8 x6 y.1) 0)) _ ((L5_0 k) (s, ior IntKind.u8 x6 y.1, x13, x14, iadd IntKind.i64 x15 1, ()))))) _ = br (ilt x15 x14) (chk _ (obnd (F12 (rd Ty.str x13 x15, 0, ())) fun y => br (ieq y.1 0) _ (br (bnot (ieq (iand IntKind.u8 x6 y.1) 0)) _ ((L5_0 k) (0, ior IntKind.u8 x6 y.1, x13, x14, iadd IntKind.i64 x15 1, ()))))) _
    rw [F12_no h]
    simp only [L5_no h k]
theorem F5_no {s : Int} {t : List Int} (h : s ≠ 3) : F5 (t, s, ()) = F5 (t, 0, ()) := by
  show br (seq t []) _ (obnd (F11 (t, [44], ())) fun y => obnd (L5_0 fuel (s, 0, y.1, len y.1, 0, ())) _) = br (seq t []) _ (obnd (F11 (t, [44], ())) fun y => obnd (L5_0 fuel (0, 0, y.1, len y.1, 0, ())) _)
  simp only [L5_no h]
theorem F3_no {s p : Int} (h : s ≠ 3) : F3 (p, s, ()) = F3 (p, 0, ()) := by
  show obnd (F4 (p, s, ())) (fun y => obnd (F5 (y.1, s, ())) fun y_1 => obnd (F6 (p, ieq s 3, ())) _) = obnd (F4 (p, 0, ())) (fun y => obnd (F5 (y.1, 0, ())) fun y_1 => obnd (F6 (p, ieq 0 3, ())) _)
  rw [F4_no h, ieq_f h]
  simp only [F5_no h]
  rfl

theorem u8_bounds {n : Int} (h : IntKind.u8.wrap n = n) : 0 ≤ n ∧ n < 256 := by
  have h' : (if (false && decide (n % 256 ≥ 128)) = true then n % 256 - 256 else n % 256) = n := h
  simp at h'
  omega

/-- ListsTexts answers true -/
theorem F3_true (p s : Int) (h : IntKind.u8.wrap p = p) : F3 (p, s, ()) = some (true, ()) := by
  obtain ⟨h1, h2⟩ := u8_bounds h
  obtain ⟨n, rfl⟩ : ∃ n : Nat, p = n := ⟨p.toNat, by omega⟩
  have key : ∀ t : Int, (List.range 256).all (holds3 t) = true → F3 ((n : Int), t, ()) = some (true, ()) := by
    intro t ht
    have h3 := List.all_eq_true.1 ht n (List.mem_range.2 (by omega))
    unfold holds3 at h3
    split at h3
    · rename_i b u e
      rw [e, h3]
    · cases h3
  by_cases hs : s = 3
  · subst hs; exact key 3 all_3
  · rw [F3_no hs]; exact key 0 all_0
end W
end Go.SX
