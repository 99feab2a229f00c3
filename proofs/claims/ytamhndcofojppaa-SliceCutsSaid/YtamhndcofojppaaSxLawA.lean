/- SliceCuts, the plain law, part 1: texts of records. -/
import Derived.Test.YtamhndcofojppaaSxK3
import Derived.Test.YtamhndcofojppaaSxA
namespace Go.SX
namespace W
set_option linter.unusedVariables false
set_option linter.unusedSimpArgs false
abbrev Rec := y3.D
abbrev Prt := y5.D

theorem F40_some (d : Int) : ∃ c : Int, F40 (d, ()) = some (c, ()) := by
  show ∃ c : Int, br (ilt d 10) (some (iadd IntKind.u8 48 d, PUnit.unit)) (some (isub IntKind.u8 (iadd IntKind.u8 65 d) 10, PUnit.unit)) = _
  cases ilt d 10
  · exact ⟨_, rfl⟩
  · exact ⟨_, rfl⟩

theorem L36_go {k : Nat} {x i : Int} {buf : List Int} (hi : 12 < i) (hi2 : i ≤ 16) : ∃ c : Int, L36_0 (k + 1) (x, 4, i, buf, ()) = L36_0 k (ishr .u64 x 4, 4, i - 1, upd buf (Int.ofNat (tn (isub .i64 i 1))) c, ()) := by
  obtain ⟨c, hc⟩ := F40_some (iconv IntKind.u8 (iand IntKind.u64 x 15))
  refine ⟨c, ?_⟩
  have h1 : isub .i64 i 1 = i - 1 := isub64 (by omega) (by omega)
  have h2 : isub .i64 16 i = 16 - i := isub64 (by omega) (by omega)
  show br _ _ _ = _
  rw [hc]
  simp only [obnd_s, h1, h2]
  rw [inb_t (a := i - 1) (b := 16) (by omega) (by omega), show ile 0 4 = true from rfl]
  have h3 : ilt (16 - i) (imin 4 16) = true := ilt_t (show 16 - i < 4 by omega)
  rw [h3]
  simp only [chk_t, br_t, br_same]

theorem L36_end {k : Nat} {buf : List Int} : L36_0 (k + 1) (0, 4, 12, buf, ()) = some (.out (12, buf, ())) := by
  show br _ _ _ = _
  rw [show ilt 0 0 = false from rfl, show ieq 12 16 = false from rfl]
  have h2 : isub .i64 16 12 = 4 := isub64 (by omega) (by omega)
  rw [h2, show ilt 4 (imin 4 16) = false from rfl]
  rfl

theorem shr4 {x : Int} {b : Nat} (h : 0 ≤ x) (h2 : x < 16 * b) : 0 ≤ ishr .u64 x 4 ∧ ishr .u64 x 4 < b := by
  have : ishr .u64 x 4 = x / 16 := by
    unfold ishr
    show x.fdiv 16 = _
    exact Int.fdiv_eq_ediv_of_nonneg _ (by omega)
  rw [this]; omega

theorem F36_some {a : Int} (h : 0 ≤ a) (h2 : a < 65536) : ∃ s : List Int, F36 (a, 4, ()) = some (s, ()) ∧ s.length = 4 := by
  obtain ⟨k, hk⟩ : ∃ k, fuel = k + 1 + 1 + 1 + 1 + 1 := ⟨1099511627771, rfl⟩
  obtain ⟨c1, e1⟩ := L36_go (k := k + 1 + 1 + 1 + 1) (x := a) (i := 16) (buf := [0, 0, 0, 0, 0, 0, 0, 0, 0, 0, 0, 0, 0, 0, 0, 0]) (by omega) (by omega)
  obtain ⟨g1, l1⟩ := shr4 (b := 4096) h (by omega)
  generalize ishr .u64 a 4 = a1 at *
  generalize hb1 : upd [0, 0, 0, 0, 0, 0, 0, 0, 0, 0, 0, 0, 0, 0, 0, 0] (Int.ofNat (tn (isub .i64 16 1))) c1 = b1 at *
  have n1 : b1.length = 16 := by rw [← hb1, len_upd]; rfl
  obtain ⟨c2, e2⟩ := L36_go (k := k + 1 + 1 + 1) (x := a1) (i := 16 - 1) (buf := b1) (by omega) (by omega)
  obtain ⟨g2, l2⟩ := shr4 (b := 256) g1 (by omega)
  generalize ishr .u64 a1 4 = a2 at *
  generalize hb2 : upd b1 (Int.ofNat (tn (isub .i64 (16 - 1) 1))) c2 = b2 at *
  have n2 : b2.length = 16 := by rw [← hb2, len_upd, n1]
  obtain ⟨c3, e3⟩ := L36_go (k := k + 1 + 1) (x := a2) (i := 16 - 1 - 1) (buf := b2) (by omega) (by omega)
  obtain ⟨g3, l3⟩ := shr4 (b := 16) g2 (by omega)
  generalize ishr .u64 a2 4 = a3 at *
  generalize hb3 : upd b2 (Int.ofNat (tn (isub .i64 (16 - 1 - 1) 1))) c3 = b3 at *
  have n3 : b3.length = 16 := by rw [← hb3, len_upd, n2]
  obtain ⟨c4, e4⟩ := L36_go (k := k + 1) (x := a3) (i := 16 - 1 - 1 - 1) (buf := b3) (by omega) (by omega)
  obtain ⟨g4, l4⟩ := shr4 (b := 1) g3 (by omega)
  generalize ishr .u64 a3 4 = a4 at *
  generalize hb4 : upd b3 (Int.ofNat (tn (isub .i64 (16 - 1 - 1 - 1) 1))) c4 = b4 at *
  have n4 : b4.length = 16 := by rw [← hb4, len_upd, n3]
  have z : a4 = 0 := by omega
  subst z
  refine ⟨part b4 12 16, ?_, ?_⟩
  · show obnd (L36_0 fuel (a, 4, 16, [0, 0, 0, 0, 0, 0, 0, 0, 0, 0, 0, 0, 0, 0, 0, 0], ())) _ = _
    rw [hk, e1, e2, e3, e4, show (16 - 1 - 1 - 1 - 1 : Int) = 12 from rfl, L36_end]
    simp only [obnd_s, lcase_o]
    rfl
  · unfold part
    simp [n4]

theorem F37_some (d : Int) : ∃ s : List Int, F37 ([d], ()) = some (s, ()) ∧ s.length = 2 := by
  obtain ⟨k, hk⟩ : ∃ k, fuel = k + 1 + 1 := ⟨1099511627774, rfl⟩
  obtain ⟨c1, h1⟩ := F40_some (ishr .u8 (rd (.int .u8) [d] 0) 4)
  obtain ⟨c2, h2⟩ := F40_some (iand .u8 (rd (.int .u8) [d] 0) 15)
  refine ⟨[c1, c2], ?_, rfl⟩
  show obnd (L37_0 fuel ([d], 1, 0, [], ())) _ = _
  have e1 : L37_0 (k + 1 + 1) ([d], 1, 0, [], ()) = L37_0 (k + 1) ([d], 1, 1, [c1, c2], ()) := by
    show obnd _ _ = _
    rw [h1]
    show obnd _ _ = _
    rw [h2]
    rfl
  have e2 : L37_0 (k + 1) ([d], 1, 1, [c1, c2], ()) = some (.out ([c1, c2], ())) := rfl
  rw [hk, e1, e2]
  rfl

theorem L31_go {k : Nat} {ls : List Bool} {i : Int} {s : List Int} (hs : s.length = 17) (h0 : 0 ≤ i) (h : i < 7) : ∃ s' : List Int, s'.length = 17 ∧ L31_0 (k + 1) (ls, i, s, ()) = L31_0 k (ls, i + 1, s', ()) := by
  have hl : len s = 17 := by unfold len; omega
  have h1 : iadd .i64 i 1 = i + 1 := iadd64 (by omega) (by omega)
  have e : L31_0 (k + 1) (ls, i, s, ()) = br (ilt i 7)
    (chk (inb i 7)
      (br (bnot (rd Ty.bool ls i)) ((L31_0 k) (ls, iadd IntKind.i64 i 1, s, PUnit.unit))
        (br (ieq i 0) (chk (inb 8 (len s)) ((L31_0 k) (ls, iadd IntKind.i64 i 1, upd s (Int.ofNat (tn 8)) 82, PUnit.unit)))
          (br (ieq i 6) (chk (inb 16 (len s)) ((L31_0 k) (ls, iadd IntKind.i64 i 1, upd s (Int.ofNat (tn 16)) 77, PUnit.unit)))
            (chk (inb (isub IntKind.i64 i 1) (len [65, 83, 76, 86, 66]))
              (chk (inb (iadd IntKind.i64 9 i) (len s))
                ((L31_0 k)
                  (ls, iadd IntKind.i64 i 1,
                    upd s (Int.ofNat (tn (iadd IntKind.i64 9 i))) (rd (Ty.int IntKind.u8) [65, 83, 76, 86, 66] (isub IntKind.i64 i 1)),
                    PUnit.unit)))))))) (some (LR.out (s, PUnit.unit))) := rfl
  rw [e, ilt_t h, inb_t h0 h, hl, h1]
  simp only [br_t, chk_t]
  cases rd Ty.bool ls i
  · exact ⟨s, hs, rfl⟩
  · simp only [bnot_t, br_f]
    by_cases hz : i = 0
    · rw [ieq_t hz, inb_t (by omega) (by omega)]
      exact ⟨_, by rw [len_upd]; exact hs, rfl⟩
    · rw [ieq_f hz]
      simp only [br_f]
      by_cases h6 : i = 6
      · rw [ieq_t h6, inb_t (by omega) (by omega)]
        exact ⟨_, by rw [len_upd]; exact hs, rfl⟩
      · rw [ieq_f h6]
        simp only [br_f]
        have h2 : isub .i64 i 1 = i - 1 := isub64 (by omega) (by omega)
        have h3 : iadd .i64 9 i = 9 + i := iadd64 (by omega) (by omega)
        rw [h2, h3, show len [65, 83, 76, 86, 66] = 5 from rfl, inb_t (by omega) (by omega), inb_t (by omega) (by omega)]
        exact ⟨_, by rw [len_upd]; exact hs, rfl⟩

theorem L31_some {ls : List Bool} : ∀ (n k : Nat) (i : Int) (s : List Int), s.length = 17 → 0 ≤ i → i + n = 7 → n < k → ∃ s' : List Int, s'.length = 17 ∧ L31_0 k (ls, i, s, ()) = some (.out (s', ()))
  | 0, k + 1, i, s, hs, h0, hn, hk => by
    have : i = 7 := by omega
    subst this
    exact ⟨s, hs, rfl⟩
  | n + 1, k + 1, i, s, hs, h0, hn, hk => by
    obtain ⟨s1, h1, e1⟩ := L31_go (k := k) (ls := ls) hs h0 (by omega)
    obtain ⟨s2, h2, e2⟩ := L31_some n k (i + 1) s1 h1 (by omega) (by omega) (by omega)
    exact ⟨s2, h2, by rw [e1, e2]⟩
  | _, 0, _, _, _, _, _, hk => by omega

theorem u16_bounds {n : Int} (h : IntKind.u16.wrap n = n) : 0 ≤ n ∧ n < 65536 := by
  unfold IntKind.wrap at h
  have h' : (if (false && decide (n % 65536 ≥ 32768)) = true then n % 65536 - 65536 else n % 65536) = n := h
  simp at h'
  omega
theorem u64_wrap {n : Int} (h : 0 ≤ n) (h2 : n < 18446744073709551616) : iconv .u64 n = n := by
  unfold iconv IntKind.wrap
  show (if (false && decide (n % 18446744073709551616 ≥ 9223372036854775808)) = true then n % 18446744073709551616 - 18446744073709551616 else n % 18446744073709551616) = n
  simp
  omega

/-- a record's text -/
theorem F31_some (x : Rec) (hx : OkD y3 x) : ∃ s : List Int, F31 (x, ()) = some (s, ()) ∧ s.length = 17 := by
  obtain ⟨h1, h2⟩ := u16_bounds hx.1
  obtain ⟨s1, e1, n1⟩ := F36_some h1 h2
  obtain ⟨s2, e2, n2⟩ := F37_some x.2.1
  have hlen : (app (app (app s1 [32]) s2) [32, 87, 32, 45, 45, 45, 45, 45, 32, 45]).length = 17 := by simp [app, n1, n2]
  obtain ⟨s3, n3, e3⟩ := L31_some (ls := [x.2.2.1, x.2.2.2.1, x.2.2.2.2.1, x.2.2.2.2.2.1, x.2.2.2.2.2.2.1, x.2.2.2.2.2.2.2.1, x.2.2.2.2.2.2.2.2.1]) 7 fuel 0 _ hlen (by omega) (by omega) (by unfold fuel; omega)
  refine ⟨s3, ?_, n3⟩
  show obnd (F36 (iconv .u64 x.1, 4, ())) _ = _
  rw [u64_wrap h1 (by omega), e1]
  simp only [obnd_s]
  rw [fits_t (by rw [n1]; decide), e2]
  simp only [chk_t, obnd_s]
  rw [fits_t (by simp [app, n1, n2]), fits_t (by simp [app, n1, n2]), fits_t (by simp [app, n1, n2])]
  simp only [chk_t]
  show obnd (L31_0 fuel _) _ = _
  rw [e3]
  rfl

theorem L22_some {l : List Rec} (hl : l.length < 4000000) (hok : ∀ x ∈ l, OkD y3 x) : ∀ (m : List Rec) (i k : Nat) (s : List Int), l.drop i = m → m.length < k → s.length + 18 * m.length < 1000000000 → ∃ s' : List Int, s'.length = s.length + 18 * m.length ∧ L22_0 k (l, len l, (i : Int), s, ()) = some (.out (s', ()))
  | [], i, k + 1, s, h, hk, hs => by
    refine ⟨s, by simp, ?_⟩
    show br _ _ _ = _
    rw [at_nil h]
    rfl
  | x :: m, i, k + 1, s, h, hk, hs => by
    obtain ⟨h1, h2, h3, h4, h5⟩ := at_cons y3 h (by omega)
    have hx : x ∈ l := List.drop_subset i l (by rw [h]; exact List.mem_cons_self)
    obtain ⟨t, e, n⟩ := F31_some x (hok x hx)
    simp only [List.length_cons] at hk hs
    obtain ⟨s', n', e'⟩ := L22_some hl hok m (i + 1) k (app (app s t) [10]) h5 (by omega) (by simp [app, n]; omega)
    refine ⟨s', ?_, ?_⟩
    · rw [n']; simp [app, n]; omega
    · show br _ _ _ = _
      rw [h1, h2, h3, h4, e]
      simp only [br_t, chk_t, obnd_s]
      rw [fits_t (by rw [n]; omega), fits_t (by simp [app, n]; omega)]
      simp only [chk_t]
      exact e'
  | _, _, 0, _, _, hk, _ => by omega

theorem F22_some {l : List Rec} (hl : l.length < 4000000) (hok : ∀ x ∈ l, OkD y3 x) : ∃ s : List Int, F22 (l, ()) = some (s, ()) ∧ s.length = 18 * l.length := by
  obtain ⟨s, n, e⟩ := L22_some hl hok l 0 fuel [] rfl (by unfold fuel; omega) (by simp; omega)
  refine ⟨s, ?_, by simpa using n⟩
  show obnd (L22_0 fuel (l, len l, 0, [], ())) _ = _
  have e' : L22_0 fuel (l, len l, 0, [], ()) = some (.out (s, ())) := e
  rw [e']
  rfl

end W
end Go.SX
