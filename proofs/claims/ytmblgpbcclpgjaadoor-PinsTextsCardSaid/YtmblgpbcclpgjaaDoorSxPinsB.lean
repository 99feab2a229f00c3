/- PinsTexts, the plain law, part 2: runs, texts, and back. -/
import Derived.Test.YtmblgpbcclpgjaaDoorSxPinsA
set_option maxRecDepth 100000
namespace Go.SX
namespace W
set_option linter.unusedVariables false
set_option linter.unusedSimpArgs false

/-- how many at the head are x -/
def runI (x : Pn) : List Pn → Nat
  | [] => 0
  | y :: m => bif eqD y4 y x then runI x m + 1 else 0
theorem runI_le (x : Pn) : ∀ m, runI x m ≤ m.length
  | [] => Nat.le_refl _
  | y :: m => by
    have := runI_le x m
    unfold runI
    cases eqD y4 y x <;> simp <;> omega
theorem runI_rep (x : Pn) : ∀ m, List.replicate (runI x m) x ++ m.drop (runI x m) = m
  | [] => rfl
  | y :: m => by
    have ih := runI_rep x m
    rw [show runI x (y :: m) = bif eqD y4 y x then runI x m + 1 else 0 from rfl]
    cases h : eqD y4 y x with
    | false => rfl
    | true =>
      have := eqD_y4.1 h
      subst this
      simpa [List.replicate_succ] using ih
/-- the runs -/
def encI : Nat → List Pn → List (Pn × Nat)
  | 0, _ => []
  | _, [] => []
  | k + 1, x :: m => (x, runI x m + 1) :: encI k (m.drop (runI x m))
theorem encI_nil : ∀ k, encI k [] = []
  | 0 => rfl
  | k + 1 => rfl
def decI : List (Pn × Nat) → List Pn
  | [] => []
  | g :: gs => List.replicate g.2 g.1 ++ decI gs
theorem dec_enc : ∀ (k : Nat) (m : List Pn), m.length ≤ k → decI (encI k m) = m
  | 0, [], _ => rfl
  | 0, x :: m, h => by simp at h
  | k + 1, [], _ => rfl
  | k + 1, x :: m, h => by
    simp only [List.length_cons] at h
    have hr := runI_le x m
    show List.replicate (runI x m + 1) x ++ decI (encI k (m.drop (runI x m))) = x :: m
    rw [dec_enc k _ (by rw [List.length_drop]; omega), List.replicate_succ, List.cons_append, runI_rep]
theorem enc_bd : ∀ (k : Nat) (m : List Pn) (g : Pn × Nat), g ∈ encI k m → 1 ≤ g.2 ∧ g.2 ≤ m.length
  | 0, m, g, h => by cases h
  | k + 1, [], g, h => by cases h
  | k + 1, x :: m, g, h => by
    have hr := runI_le x m
    rcases List.mem_cons.1 (show g ∈ (x, runI x m + 1) :: encI k (m.drop (runI x m)) from h) with rfl | h
    · exact ⟨by simp, by simp; omega⟩
    · have := enc_bd k _ g h
      rw [List.length_drop] at this
      exact ⟨this.1, by simp; omega⟩
theorem enc_len : ∀ (k : Nat) (m : List Pn), (encI k m).length ≤ m.length
  | 0, m => by simp [encI]
  | k + 1, [] => by simp [encI]
  | k + 1, x :: m => by
    have := enc_len k (m.drop (runI x m))
    rw [List.length_drop] at this
    show ((x, runI x m + 1) :: encI k (m.drop (runI x m))).length ≤ _
    simp only [List.length_cons]; omega

section
variable {l : List Pn}

/-- an element by its place -/
theorem at_i {i : Nat} {x : Pn} {m : List Pn} (h : l.drop i = x :: m) (hl : l.length < 1000000) : (i : Int) < len l ∧ rd y4 l (i : Int) = x ∧ i < l.length ∧ l.drop (i + 1) = m := by
  obtain ⟨h1, h2, h3, h4, h5⟩ := at_cons y4 h (by omega)
  have : i < l.length := by
    rcases Nat.lt_or_ge i l.length with h6 | h6
    · exact h6
    · rw [List.drop_eq_nil_of_le h6] at h; cases h
  exact ⟨by unfold len; omega, h3, this, h5⟩

theorem L202_eqn (hl : l.length < 1000000) {i : Nat} {x : Pn} (hi : i < l.length) (hx : rd y4 l (i : Int) = x) {ws : List (List Int)} : ∀ (m : List Pn) (n k : Nat), l.drop (i + n) = m → m.length < k → n ≤ l.length → L20_2 k (l, (i : Int), (n : Int), ws, ()) = some (.out (l, (i : Int), ((n + runI x m : Nat) : Int), ws, ()))
  | [], n, k + 1, h, hk, hn => by
    have h6 := at_nil_eq h
    show br (ilt (iadd .i64 (i : Int) (n : Int)) (len l)) _ _ = _
    rw [iadd64 (by omega) (by omega), ilt_f (by unfold len; omega)]
    rfl
  | y :: m, n, k + 1, h, hk, hn => by
    obtain ⟨h1, h2, h3, h4⟩ := at_i h hl
    have e : iadd .i64 (i : Int) (n : Int) = ((i + n : Nat) : Int) := by rw [iadd64 (by omega) (by omega)]; omega
    have e1 : iadd .i64 (n : Int) 1 = ((n + 1 : Nat) : Int) := by rw [iadd64 (by omega) (by omega)]; omega
    simp only [List.length_cons] at hk
    show br (ilt (iadd .i64 (i : Int) (n : Int)) (len l)) (chk (inb (iadd .i64 (i : Int) (n : Int)) (len l)) (chk (inb (i : Int) (len l)) (br (eqD y4 (rd y4 l (iadd .i64 (i : Int) (n : Int))) (rd y4 l (i : Int))) ((L20_2 k) (l, (i : Int), iadd .i64 (n : Int) 1, ws, ())) (some (LR.out (l, (i : Int), (n : Int), ws, ())))))) _ = _
    rw [e, e1, h2, hx, ilt_t h1, inb_t (by omega) h1, inb_t (a := (i : Int)) (by omega) (by unfold len; omega)]
    simp only [br_t, chk_t]
    rw [show runI x (y :: m) = bif eqD y4 y x then runI x m + 1 else 0 from rfl]
    cases eqD y4 y x with
    | false => rfl
    | true =>
      have ih := L202_eqn hl hi hx (ws := ws) m (n + 1) k (by rw [← Nat.add_assoc]; exact h4) (by omega) (by omega)
      show L20_2 k (l, (i : Int), ((n + 1 : Nat) : Int), ws, ()) = some (.out (l, (i : Int), ((n + (runI x m + 1) : Nat) : Int), ws, ()))
      rw [ih, show n + 1 + runI x m = n + (runI x m + 1) from by omega]
  | _, _, 0, _, hk, _ => by omega

theorem L222_eqn (hl : l.length < 1000000) {i : Nat} {x : Pn} (hi : i < l.length) (hx : rd y4 l (i : Int) = x) {s : List Int} : ∀ (m : List Pn) (n k : Nat), l.drop (i + n) = m → m.length < k → n ≤ l.length → L22_2 k (l, s, (i : Int), (n : Int), ()) = some (.out (l, s, (i : Int), ((n + runI x m : Nat) : Int), ()))
  | [], n, k + 1, h, hk, hn => by
    have h6 := at_nil_eq h
    show br (ilt (iadd .i64 (i : Int) (n : Int)) (len l)) _ _ = _
    rw [iadd64 (by omega) (by omega), ilt_f (by unfold len; omega)]
    rfl
  | y :: m, n, k + 1, h, hk, hn => by
    obtain ⟨h1, h2, h3, h4⟩ := at_i h hl
    have e : iadd .i64 (i : Int) (n : Int) = ((i + n : Nat) : Int) := by rw [iadd64 (by omega) (by omega)]; omega
    have e1 : iadd .i64 (n : Int) 1 = ((n + 1 : Nat) : Int) := by rw [iadd64 (by omega) (by omega)]; omega
    simp only [List.length_cons] at hk
    show br (ilt (iadd .i64 (i : Int) (n : Int)) (len l)) (chk (inb (iadd .i64 (i : Int) (n : Int)) (len l)) (chk (inb (i : Int) (len l)) (br (eqD y4 (rd y4 l (iadd .i64 (i : Int) (n : Int))) (rd y4 l (i : Int))) ((L22_2 k) (l, s, (i : Int), iadd .i64 (n : Int) 1, ())) (some (LR.out (l, s, (i : Int), (n : Int), ())))))) _ = _
    rw [e, e1, h2, hx, ilt_t h1, inb_t (by omega) h1, inb_t (a := (i : Int)) (by omega) (by unfold len; omega)]
    simp only [br_t, chk_t]
    rw [show runI x (y :: m) = bif eqD y4 y x then runI x m + 1 else 0 from rfl]
    cases eqD y4 y x with
    | false => rfl
    | true =>
      have ih := L222_eqn hl hi hx (s := s) m (n + 1) k (by rw [← Nat.add_assoc]; exact h4) (by omega) (by omega)
      show L22_2 k (l, s, (i : Int), ((n + 1 : Nat) : Int), ()) = some (.out (l, s, (i : Int), ((n + (runI x m + 1) : Nat) : Int), ()))
      rw [ih, show n + 1 + runI x m = n + (runI x m + 1) from by omega]
  | _, _, 0, _, hk, _ => by omega

theorem u64n {n : Nat} (h : n < 1000000) : iconv .u64 (n : Int) = (n : Int) := by
  unfold iconv IntKind.wrap
  show (if (false && decide ((n : Int) % 18446744073709551616 ≥ 9223372036854775808)) = true then (n : Int) % 18446744073709551616 - 18446744073709551616 else (n : Int) % 18446744073709551616) = n
  simp
  omega

/-- the program's text: the words -/
theorem L200_eqn (hl : l.length ≤ 300) : ∀ (K : Nat) (m : List Pn) (i k : Nat) (ws : List (List Int)), l.drop i = m → m.length ≤ K → K < k → ws.length + m.length ≤ 1000 → L20_0 k (l, (i : Int), ws, ()) = some (.out (ws ++ (encI K m).map wordI, ()))
  | K, [], i, k + 1, ws, h, hK, hk, hw => by
    show br (ilt (i : Int) (len l)) _ _ = _
    rw [at_nil h, encI_nil, List.map_nil, List.append_nil]
    rfl
  | K + 1, x :: m, i, k + 1, ws, h, hK, hk, hw => by
    obtain ⟨h1, h2, h3, h4⟩ := at_i h (by omega)
    simp only [List.length_cons] at hK hw
    have hr := runI_le x m
    have hml : m.length < l.length := by
      have := congrArg List.length h
      simp at this; omega
    have hd := dgOk (n := 1 + runI x m) (by omega)
    have hwd := wdOk x
    have e202 := L202_eqn (ws := ws) (by omega) h3 h2 m 1 fuel h4 (by unfold fuel; omega) (by omega)
    have e1 : iadd .i64 (i : Int) ((1 + runI x m : Nat) : Int) = ((i + (1 + runI x m) : Nat) : Int) := by rw [iadd64 (by omega) (by omega)]; omega
    have ih := fun w : List Int => L200_eqn hl K (m.drop (runI x m)) (i + (1 + runI x m)) k (app ws [w]) (by rw [← h4, List.drop_drop]; congr 1; omega) (by rw [List.length_drop]; omega) (by omega) (by simp [app]; omega)
    show br (ilt (i : Int) (len l)) (obnd (L20_2 fuel (l, (i : Int), 1, ws, ())) _) _ = _
    rw [ilt_t h1, show L20_2 fuel (l, (i : Int), 1, ws, ()) = _ from e202]
    show chk (inb (i : Int) (len l)) (obnd (F18 (rd y4 l (i : Int), ())) fun y => br (ilt 1 ((1 + runI x m : Nat) : Int)) (obnd (F40 (iconv .u64 ((1 + runI x m : Nat) : Int), ())) fun y_1 => chk (fits [42] y_1.1) (chk (fits y.1 (app [42] y_1.1)) (chk (fits ws [app y.1 (app [42] y_1.1)]) ((L20_0 k) (l, iadd .i64 (i : Int) ((1 + runI x m : Nat) : Int), app ws [app y.1 (app [42] y_1.1)], ())))))
      (chk (fits ws [y.1]) ((L20_0 k) (l, iadd .i64 (i : Int) ((1 + runI x m : Nat) : Int), app ws [y.1], ())))) = _
    rw [inb_t (by omega) h1, h2, hwd.f18, u64n (by omega), hd.f40, e1]
    show br (ilt 1 ((1 + runI x m : Nat) : Int)) (chk (fits [42] (dgI (1 + runI x m))) (chk (fits (wdI x) (app [42] (dgI (1 + runI x m)))) (chk (fits ws [app (wdI x) (app [42] (dgI (1 + runI x m)))]) ((L20_0 k) (l, ((i + (1 + runI x m) : Nat) : Int), app ws [app (wdI x) (app [42] (dgI (1 + runI x m)))], ())))))
      (chk (fits ws [wdI x]) ((L20_0 k) (l, ((i + (1 + runI x m) : Nat) : Int), app ws [wdI x], ()))) = some (.out (ws ++ (wordI (x, runI x m + 1) :: (encI K (m.drop (runI x m))).map wordI), ()))
    have hl1 := hd.len
    have hl2 := hwd.len
    rw [fits_t (by simp; omega), fits_t (by simp [app]; omega), fits_t (by simp; omega), fits_t (by simp; omega)]
    simp only [chk_t]
    rw [ih, ih]
    unfold wordI
    have e5 : runI x m + 1 = 1 + runI x m := by omega
    simp only [e5]
    by_cases hb : 1 < 1 + runI x m
    · rw [ilt_t (by omega), show Nat.blt 1 (1 + runI x m) = true from by rw [Nat.blt_eq]; exact hb]
      simp [app]
    · have e6 : runI x m = 0 := by omega
      rw [e6]
      simp [app, ilt]
      rfl
  | 0, x :: m, _, _, _, _, hK, _, _ => by simp at hK
  | _, _, _, 0, _, _, _, hk, _ => by omega

/-- the document's text -/
theorem L220_eqn (hl : l.length ≤ 300) : ∀ (K : Nat) (m : List Pn) (i k : Nat) (s : List Int), l.drop i = m → m.length ≤ K → K < k → s.length + 20 * m.length ≤ 100000 →
    L22_0 k (l, s, (i : Int), ()) = some (.out (bif seq s [] then joinI ((encI K m).map wordI) [32] else s ++ joinT [32] ((encI K m).map wordI), ()))
  | K, [], i, k + 1, s, h, hK, hk, hw => by
    show br (ilt (i : Int) (len l)) _ _ = _
    rw [at_nil h, encI_nil, List.map_nil]
    show some (LR.out (s, ())) = some (LR.out ((bif seq s [] then [] else s ++ []), ()))
    cases hs : seq s [] with
    | false => simp
    | true =>
      have : s = [] := by simpa [seq] using hs
      rw [this]; rfl
  | K + 1, x :: m, i, k + 1, s, h, hK, hk, hw => by
    obtain ⟨h1, h2, h3, h4⟩ := at_i h (by omega)
    simp only [List.length_cons] at hK hw
    have hr := runI_le x m
    have hml : m.length < l.length := by
      have := congrArg List.length h
      simp at this; omega
    have hd := dgOk (n := 1 + runI x m) (by omega)
    have hwd := wdOk x
    have hl1 := hd.len
    have hl2 := hwd.len
    have e222 := L222_eqn (s := s) (by omega) h3 h2 m 1 fuel h4 (by unfold fuel; omega) (by omega)
    have e1 : iadd .i64 (i : Int) ((1 + runI x m : Nat) : Int) = ((i + (1 + runI x m) : Nat) : Int) := by rw [iadd64 (by omega) (by omega)]; omega
    have ih := fun (w : List Int) (hwl : w.length ≤ s.length + 20) => L220_eqn hl K (m.drop (runI x m)) (i + (1 + runI x m)) k w (by rw [← h4, List.drop_drop]; congr 1; omega) (by rw [List.length_drop]; omega) (by omega) (by rw [List.length_drop]; omega)
    have e5 : runI x m + 1 = 1 + runI x m := by omega
    -- what is put behind the text so far
    have key : ∀ (t : List Int), t.length ≤ s.length + 1 → (br (ilt 1 ((1 + runI x m : Nat) : Int)) (obnd (F30 (iconv .u64 ((1 + runI x m : Nat) : Int), 10, 1, ())) fun y_1 => chk (fits [42] y_1.1) (chk (fits (app t (wdI x)) (app [42] y_1.1)) ((L22_0 k) (l, app (app t (wdI x)) (app [42] y_1.1), iadd .i64 (i : Int) ((1 + runI x m : Nat) : Int), ()))))
        ((L22_0 k) (l, app t (wdI x), iadd .i64 (i : Int) ((1 + runI x m : Nat) : Int), ()))) = some (.out (t ++ (wordI (x, runI x m + 1) ++ joinT [32] ((encI K (m.drop (runI x m))).map wordI)), ())) := by
      intro t ht
      rw [u64n (by omega), hd.f30, e1]
      show br (ilt 1 ((1 + runI x m : Nat) : Int)) (chk (fits [42] (dgI (1 + runI x m))) (chk (fits (app t (wdI x)) (app [42] (dgI (1 + runI x m)))) ((L22_0 k) (l, app (app t (wdI x)) (app [42] (dgI (1 + runI x m))), ((i + (1 + runI x m) : Nat) : Int), ())))) ((L22_0 k) (l, app t (wdI x), ((i + (1 + runI x m) : Nat) : Int), ())) = _
      rw [fits_t (by simp; omega), fits_t (by simp [app]; omega)]
      simp only [chk_t]
      rw [ih _ (by simp [app]; omega), ih _ (by simp [app]; omega)]
      have hne : wdI x ≠ [] := hwd.ne
      have q1 : seq (app (app t (wdI x)) (app [42] (dgI (1 + runI x m)))) [] = false := by simp [seq, app]
      have q2 : seq (app t (wdI x)) [] = false := by simp [seq, app, hne]
      rw [q1, q2]
      unfold wordI
      simp only [e5]
      by_cases hb : 1 < 1 + runI x m
      · rw [ilt_t (by omega), show Nat.blt 1 (1 + runI x m) = true from by rw [Nat.blt_eq]; exact hb]
        simp [app]
      · have e6 : runI x m = 0 := by omega
        rw [e6]
        simp [app, ilt]
        rfl
    show br (ilt (i : Int) (len l)) (obnd (L22_2 fuel (l, s, (i : Int), 1, ())) _) _ = _
    rw [ilt_t h1, show L22_2 fuel (l, s, (i : Int), 1, ()) = _ from e222]
    show br (bnot (seq s [])) (chk (fits s [32]) (chk (inb (i : Int) (len l)) (obnd (F19 (rd y4 l (i : Int), ())) fun y => chk (fits (app s [32]) y.1) (br (ilt 1 ((1 + runI x m : Nat) : Int)) (obnd (F30 (iconv .u64 ((1 + runI x m : Nat) : Int), 10, 1, ())) fun y_1 => chk (fits [42] y_1.1) (chk (fits (app (app s [32]) y.1) (app [42] y_1.1)) ((L22_0 k) (l, app (app (app s [32]) y.1) (app [42] y_1.1), iadd .i64 (i : Int) ((1 + runI x m : Nat) : Int), ()))))
        ((L22_0 k) (l, app (app s [32]) y.1, iadd .i64 (i : Int) ((1 + runI x m : Nat) : Int), ()))))))
      (chk (inb (i : Int) (len l)) (obnd (F19 (rd y4 l (i : Int), ())) fun y => chk (fits s y.1) (br (ilt 1 ((1 + runI x m : Nat) : Int)) (obnd (F30 (iconv .u64 ((1 + runI x m : Nat) : Int), 10, 1, ())) fun y_1 => chk (fits [42] y_1.1) (chk (fits (app s y.1) (app [42] y_1.1)) ((L22_0 k) (l, app (app s y.1) (app [42] y_1.1), iadd .i64 (i : Int) ((1 + runI x m : Nat) : Int), ()))))
        ((L22_0 k) (l, app s y.1, iadd .i64 (i : Int) ((1 + runI x m : Nat) : Int), ()))))) = _
    rw [inb_t (by omega) h1, h2, hwd.f19, fits_t (m := [32]) (by simp; omega)]
    simp only [chk_t, obnd_s]
    rw [fits_t (by simp [app]; omega), fits_t (by omega)]
    simp only [chk_t]
    rw [key (app s [32]) (by simp [app]), key s (by omega)]
    cases hs : seq s [] with
    | false =>
      show some (LR.out ((app s [32]) ++ (wordI (x, runI x m + 1) ++ joinT [32] ((encI K (m.drop (runI x m))).map wordI)), ())) = some (LR.out (s ++ ([32] ++ wordI (x, runI x m + 1) ++ joinT [32] ((encI K (m.drop (runI x m))).map wordI)), ()))
      simp [app]
    | true =>
      have : s = [] := by simpa [seq] using hs
      rw [this]
      rfl
  | 0, x :: m, _, _, _, _, hK, _, _ => by simp at hK
  | _, _, _, 0, _, _, _, hk, _ => by omega
end
end W
end Go.SX
