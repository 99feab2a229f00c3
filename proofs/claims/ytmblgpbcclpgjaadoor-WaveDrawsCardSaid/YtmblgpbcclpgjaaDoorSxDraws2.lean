/- WaveDraws, the plain law, part 2: reading back; the whole. -/
import Derived.Test.YtmblgpbcclpgjaaDoorSxDraws
set_option maxRecDepth 100000
namespace Go.SX
namespace W
set_option linter.unusedVariables false
set_option linter.unusedSimpArgs false

def rowB (l : List Rec) (i : Nat) : List Int := pads.getD i [] ++ lineI i l
def rowsI (l : List Rec) : List (List Int) := [rowB l 0, rowB l 1, rowB l 2, rowB l 3, rowB l 4, rowB l 5, rowB l 6, []]

theorem rowB_ne (l : List Rec) {i : Nat} (hi : i < 7) : ∀ c ∈ rowB l i, c ≠ 10 := by
  intro c hc
  rcases List.mem_append.1 hc with hc | hc
  · have hcs : i = 0 ∨ i = 1 ∨ i = 2 ∨ i = 3 ∨ i = 4 ∨ i = 5 ∨ i = 6 := by omega
    rcases hcs with rfl | rfl | rfl | rfl | rfl | rfl | rfl <;> (simp [pads] at hc; omega)
  · obtain ⟨x, _, rfl⟩ := List.mem_map.1 hc
    unfold sg
    cases lvl i x <;> decide
theorem split_text (l : List Rec) : splitC 10 (textI l) = rowsI l := by
  have h := fun i (hi : i < 7) => rowB_ne l hi
  have e : textI l = rowB l 0 ++ 10 :: (rowB l 1 ++ 10 :: (rowB l 2 ++ 10 :: (rowB l 3 ++ 10 :: (rowB l 4 ++ 10 :: (rowB l 5 ++ 10 :: (rowB l 6 ++ 10 :: [])))))) := by
    unfold textI rowI rowB app
    simp only [List.append_assoc, List.nil_append, List.singleton_append, List.cons_append, List.append_nil]
  rw [e, split_at _ _ (h 0 (by omega)), split_at _ _ (h 1 (by omega)), split_at _ _ (h 2 (by omega)), split_at _ _ (h 3 (by omega)), split_at _ _ (h 4 (by omega)), split_at _ _ (h 5 (by omega)), split_at _ _ (h 6 (by omega))]
  rfl
theorem pads_len {i : Nat} (hi : i < 7) : (pads.getD i []).length = 5 := by
  have hcs : i = 0 ∨ i = 1 ∨ i = 2 ∨ i = 3 ∨ i = 4 ∨ i = 5 ∨ i = 6 := by omega
  rcases hcs with rfl | rfl | rfl | rfl | rfl | rfl | rfl <;> rfl
theorem rowB_len (l : List Rec) {i : Nat} (hi : i < 7) : (rowB l i).length = l.length + 5 := by
  unfold rowB
  rw [List.length_append, pads_len hi, lineI_len]; omega
theorem rows_rd (l : List Rec) {j : Nat} (hj : j < 7) : rd Ty.str (rowsI l) (j : Int) = rowB l j := by
  have hcs : j = 0 ∨ j = 1 ∨ j = 2 ∨ j = 3 ∨ j = 4 ∨ j = 5 ∨ j = 6 := by omega
  rcases hcs with rfl | rfl | rfl | rfl | rfl | rfl | rfl <;> rfl
/-- a level's sign -/
theorem rowB_at (l : List Rec) {i j : Nat} (hj : j < 7) {x : Rec} (hx : l[i]? = some x) : ieq (rd (Ty.int IntKind.u8) (rowB l j) ((i + 5 : Nat) : Int)) 35 = lvl j x := by
  have e : rd (Ty.int IntKind.u8) (rowB l j) ((i + 5 : Nat) : Int) = sg (lvl j x) := by
    unfold rd
    rw [show ((i + 5 : Nat) : Int).toNat = i + 5 from by omega, List.getD_eq_getElem?_getD]
    unfold rowB
    rw [List.getElem?_append_right (by rw [pads_len hj]; omega), pads_len hj, Nat.add_sub_cancel]
    unfold lineI
    rw [List.getElem?_map, hx]
    rfl
  rw [e]
  cases lvl j x <;> rfl

/-- the levels of a record, from the first on -/
def lvls (x : Rec) (n : Nat) : List Bool := (List.range n).map fun j => lvl j x
theorem L142_exact {s : List Int} {l : List Rec} (hl : l.length < 1000000) {i : Nat} {x : Rec} (hx : l[i]? = some x) {n : Int} {rs : List Rec} : ∀ (q j k : Nat) (bs : List Bool), j + q = 7 → q < k → bs.length = 7 → (∀ t, t < j → bs[t]? = some (lvl t x)) →
    ∃ bs' : List Bool, L14_2 k (s, rowsI l, (i : Int), n, (i : Int), (j : Int), rs, bs, ()) = some (.out (s, rowsI l, n, (i : Int), rs, bs', ())) ∧ ∀ t, t < 7 → bs'[t]? = some (lvl t x)
  | 0, j, k + 1, bs, hj, hk, hb, ht => by
    obtain rfl : j = 7 := by omega
    exact ⟨bs, rfl, ht⟩
  | q + 1, j, k + 1, bs, hj, hk, hb, ht => by
    have hi : i < l.length := by
      rcases Nat.lt_or_ge i l.length with h | h
      · exact h
      · rw [List.getElem?_eq_none h] at hx; cases hx
    obtain ⟨bs', q1, q2⟩ := L142_exact (s := s) hl hx (n := n) (rs := rs) q (j + 1) k (upd bs (Int.ofNat (tn (j : Int))) (lvl j x)) (by omega) (by omega) (by rw [len_upd]; exact hb) (fun t htj => by
      show (bs.set j (lvl j x))[t]? = _
      by_cases e : t = j
      · subst e; rw [List.getElem?_set_self (by omega)]
      · rw [List.getElem?_set_ne (by omega)]; exact ht t (by omega))
    have e1 : iadd .i64 (j : Int) 1 = ((j + 1 : Nat) : Int) := by rw [iadd64 (by omega) (by omega)]; omega
    have e2 : iadd .i64 (i : Int) 5 = ((i + 5 : Nat) : Int) := by rw [iadd64 (by omega) (by omega)]; omega
    refine ⟨bs', ?_, q2⟩
    show br (ilt (j : Int) 7) (chk (inb (j : Int) (len (rowsI l))) (br (ilt (iadd .i64 (i : Int) 5) (len (rd Ty.str (rowsI l) (j : Int)))) (chk (inb (j : Int) (len (rowsI l))) (chk (inb (iadd .i64 (i : Int) 5) (len (rd Ty.str (rowsI l) (j : Int)))) (chk (inb (j : Int) 7) ((L14_2 k) (s, rowsI l, (i : Int), n, (i : Int), iadd .i64 (j : Int) 1, rs, upd bs (Int.ofNat (tn (j : Int))) (ieq (rd (Ty.int IntKind.u8) (rd Ty.str (rowsI l) (j : Int)) (iadd .i64 (i : Int) 5)) 35), ())))))
      (chk (inb (j : Int) 7) ((L14_2 k) (s, rowsI l, (i : Int), n, (i : Int), iadd .i64 (j : Int) 1, rs, upd bs (Int.ofNat (tn (j : Int))) false, ()))))) _ = _
    have hlt : ((i + 5 : Nat) : Int) < len (rowB l j) := by unfold len; rw [rowB_len l (by omega)]; omega
    rw [rows_rd l (by omega), e1, e2, rowB_at l (by omega) hx, ilt_t (by omega), inb_t (b := len (rowsI l)) (by omega) (by show (j : Int) < 8; omega), ilt_t hlt, inb_t (by omega) hlt, inb_t (b := 7) (by omega) (by omega)]
    exact q1
  | _, _, 0, _, _, hk, _, _ => by omega

theorem L140_exact {s : List Int} {l : List Rec} (hl : l.length < 1000000) : ∀ (m : List Rec) (i k : Nat), l.drop i = m → m.length < k → L14_0 k (s, rowsI l, (l.length : Int), (i : Int), (l.take i).map bareI, ()) = some (.out (s, l.map bareI, ()))
  | [], i, k + 1, h, hk => by
    have h6 := at_nil_eq h
    show br (ilt (i : Int) (l.length : Int)) _ _ = _
    rw [ilt_f (by omega), List.take_of_length_le h6]
    rfl
  | x :: m, i, k + 1, h, hk => by
    obtain ⟨h1, h2, h3, h4, h5⟩ := at_cons y3 h (by omega)
    simp only [List.length_cons] at hk
    have hi : i < l.length := by
      rcases Nat.lt_or_ge i l.length with h6 | h6
      · exact h6
      · rw [List.drop_eq_nil_of_le h6] at h; cases h
    have hx : l[i]? = some x := by
      have := congrArg (·[0]?) h
      simpa [List.getElem?_drop] using this
    have htl : ((l.take i).map bareI).length = i := by rw [List.length_map, List.length_take]; omega
    obtain ⟨bs, e, hbs⟩ := L142_exact (s := s) hl hx (n := (l.length : Int)) (rs := (l.take i).map bareI) 7 0 fuel [false, false, false, false, false, false, false] (by omega) (by unfold fuel; omega) rfl (fun t ht => by omega)
    have hg : ∀ t : Nat, t < 7 → rd Ty.bool bs (Int.ofNat (tn (t : Int))) = lvl t x := fun t ht => by
      show bs.getD t false = _
      rw [List.getD_eq_getElem?_getD, hbs t ht]; rfl
    have ih := L140_exact (s := s) hl m (i + 1) k h5 (by omega)
    have etk : (l.take (i + 1)).map bareI = app ((l.take i).map bareI) [bareI x] := by
      rw [List.take_add_one, hx]
      simp [app]
    show br (ilt (i : Int) (l.length : Int)) (obnd (L14_2 fuel (s, rowsI l, (i : Int), (l.length : Int), (i : Int), 0, (l.take i).map bareI, [false, false, false, false, false, false, false], ())) _) _ = _
    rw [ilt_t (by omega), show L14_2 fuel (s, rowsI l, (i : Int), (l.length : Int), (i : Int), 0, (l.take i).map bareI, [false, false, false, false, false, false, false], ()) = _ from e]
    show chk (fits ((l.take i).map bareI) [((0, 0, rd Ty.bool bs (Int.ofNat (tn (0 : Nat))), rd Ty.bool bs (Int.ofNat (tn (1 : Nat))), rd Ty.bool bs (Int.ofNat (tn (2 : Nat))), rd Ty.bool bs (Int.ofNat (tn (3 : Nat))), rd Ty.bool bs (Int.ofNat (tn (4 : Nat))), rd Ty.bool bs (Int.ofNat (tn (5 : Nat))), rd Ty.bool bs (Int.ofNat (tn (6 : Nat))), ()) : Rec)])
      ((L14_0 k) (s, rowsI l, (l.length : Int), iadd .i64 (i : Int) 1, app ((l.take i).map bareI) [((0, 0, rd Ty.bool bs (Int.ofNat (tn (0 : Nat))), rd Ty.bool bs (Int.ofNat (tn (1 : Nat))), rd Ty.bool bs (Int.ofNat (tn (2 : Nat))), rd Ty.bool bs (Int.ofNat (tn (3 : Nat))), rd Ty.bool bs (Int.ofNat (tn (4 : Nat))), rd Ty.bool bs (Int.ofNat (tn (5 : Nat))), rd Ty.bool bs (Int.ofNat (tn (6 : Nat))), ()) : Rec)], ())) = _
    rw [fits_t (by rw [htl]; simp; omega), hg 0 (by omega), hg 1 (by omega), hg 2 (by omega), hg 3 (by omega), hg 4 (by omega), hg 5 (by omega), hg 6 (by omega), h4]
    rw [show ((0, 0, lvl 0 x, lvl 1 x, lvl 2 x, lvl 3 x, lvl 4 x, lvl 5 x, lvl 6 x, ()) : Rec) = bareI x from rfl, ← etk]
    exact ih
  | _, _, 0, _, hk => by omega

theorem text_bare (l : List Rec) : textI (l.map bareI) = textI l := by
  have e : ∀ i, lineI i (l.map bareI) = lineI i l := fun i => by
    unfold lineI
    rw [List.map_map]
    rfl
  unfold textI rowI
  simp only [e]

theorem text_len {l : List Rec} : (textI l).length = 7 * (l.length + 6) := textN_len l 7 (Nat.le_refl _)

/-- the drawn text is read -/
theorem F14_text {l : List Rec} (hl : l.length < 10000) : F14 (textI l, ()) = some (l.map bareI, 0, ()) := by
  have e35 := F35_one (textI l) 10 (by rw [text_len]; omega)
  rw [split_text] at e35
  have en : isub .i64 (len (rd Ty.str (rowsI l) 0)) 5 = (l.length : Int) := by
    show isub .i64 (len (rowB l 0)) 5 = _
    unfold len
    rw [rowB_len l (by omega), isub64 (by omega) (by omega)]; omega
  have hlr : ilt (len (rd Ty.str (rowsI l) 0)) 5 = false := by
    show ilt (len (rowB l 0)) 5 = _
    exact ilt_f (by unfold len; rw [rowB_len l (by omega)]; omega)
  have e140 := L140_exact (s := textI l) (l := l) (by omega) l 0 fuel rfl (by unfold fuel; omega)
  show obnd (F35 (textI l, [10], ())) _ = _
  rw [e35]
  show br (bnot (ieq (len (rowsI l)) 8)) (some ([], 21, ())) (chk (inb 0 (len (rowsI l))) (br (ilt (len (rd Ty.str (rowsI l) 0)) 5) (some ([], 21, ())) (chk (inb 0 (len (rowsI l))) (obnd (L14_0 fuel (textI l, rowsI l, isub .i64 (len (rd Ty.str (rowsI l) 0)) 5, 0, [], ())) _)))) = _
  rw [show ieq (len (rowsI l)) 8 = true from rfl, show inb 0 (len (rowsI l)) = true from rfl, hlr, en, show L14_0 fuel (textI l, rowsI l, (l.length : Int), 0, [], ()) = _ from e140]
  show (obnd (F15 (l.map bareI, ())) fun y_1 => br (bnot (seq y_1.1 (textI l))) (some ([], 21, ())) (some (l.map bareI, 0, ()))) = _
  rw [F15_eqn (by rw [List.length_map]; omega), text_bare]
  show br (bnot (seq (textI l) (textI l))) (some ([], 21, ())) (some (l.map bareI, 0, ())) = _
  rw [show seq (textI l) (textI l) = true from by simp [seq]]
  rfl

theorem eqD_y3 (x : Rec) : eqD y3 x x = true := by
  obtain ⟨a, b, c, d, e, f, g, h, i, u⟩ := x
  simp [eqD]
theorem L29_eqn {l : List Rec} (hl : l.length < 4000000) : ∀ (m : List Rec) (i k : Nat), l.drop i = m → m.length < k → L29_0 k (l, l, len l, (i : Int), ()) = some (.out ())
  | [], i, k + 1, h, hk => by
    show br _ _ _ = _
    rw [at_nil h]; rfl
  | x :: m, i, k + 1, h, hk => by
    obtain ⟨h1, h2, h3, h4, h5⟩ := at_cons y3 h (by omega)
    simp only [List.length_cons] at hk
    show br _ (chk _ (chk _ (br (bnot (eqD y3 _ _)) _ _))) _ = _
    rw [h1, h2, h3, h4, eqD_y3]
    simp only [br_t, chk_t]
    exact L29_eqn hl m (i + 1) k h5 (by omega)
  | _, _, 0, _, hk => by omega
theorem F29_eqn {l : List Rec} (hl : l.length < 4000000) : F29 (l, l, ()) = some (true, ()) := by
  have e := L29_eqn hl l 0 fuel rfl (by unfold fuel; omega)
  show br (bnot (ieq (len l) (len l))) _ (obnd (L29_0 fuel (l, l, len l, 0, ())) _) = _
  rw [show L29_0 fuel (l, l, len l, 0, ()) = _ from e, ieq_t rfl]
  rfl

theorem cnt2_low : ∀ (n : Nat), cnt2 95 35 (95 :: List.replicate n 95) = 0
  | 0 => rfl
  | n + 1 => by
    rw [List.replicate_succ]
    show (bif ((95 : Int) == 95) && ((95 : Int) == 35) then _ else cnt2 95 35 (95 :: List.replicate n 95)) = 0
    rw [cnt2_low n]
    rfl
theorem cntI_low : ∀ (n : Nat), cntI (List.replicate n 95) 35 = 0
  | 0 => rfl
  | n + 1 => by
    rw [List.replicate_succ, cnt_cons, cntI_low n]
    rfl
theorem lineG_out {line : Int} (h : line < 0 ∨ 6 < line) (l : List Rec) : lineG line l = List.replicate l.length 95 := by
  induction l with
  | nil => rfl
  | cons x l ih =>
    show sg (onI line x) :: lineG line l = _
    rw [ih, onI_out h]
    rfl

theorem F27_eqn {l : List Rec} (hl : l.length < 100000) (line : Int) : F27 (line, l, ()) = some (cnt2 95 35 (95 :: lineG line l), ()) := by
  have key : ∀ t : List Int, t.length < 1000000 → F26 (line, l, ()) = some (t, ()) → F27 (line, l, ()) = some (cnt2 95 35 (95 :: t), ()) := by
    intro t ht h
    show obnd (F26 (line, l, ())) _ = _
    rw [h]
    show chk (fits [95] t) (obnd (F45 (app [95] t, [95, 35], ())) fun y_1 => some (y_1.1, ())) = _
    have e45 : F45 (app [95] t, [95, 35], ()) = some (cnt2 95 35 (95 :: t), ()) := by
      show (bif Nat.blt (List.length (α := Int) (95 :: t)) 4000000000 && !((95 : Int) == 35) then some (cnt2 95 35 (95 :: t), ()) else none) = _
      rw [show Nat.blt (List.length (α := Int) (95 :: t)) 4000000000 = true from by rw [Nat.blt_eq]; simp; omega]
      rfl
    rw [fits_t (by simp; omega), e45]
    rfl
  by_cases ho : line < 0 ∨ 6 < line
  · rw [key [] (by simp) (F26_none ho), lineG_out ho, cnt2_low]
    rfl
  · obtain ⟨i, rfl⟩ : ∃ i : Nat, line = i := ⟨line.toNat, by omega⟩
    have hi : i < 7 := by omega
    rw [key (lineI i l) (by rw [lineI_len]; omega) (F26_eqn hi (by omega))]
    have : lineG (i : Int) l = lineI i l := by
      unfold lineG lineI
      exact List.map_congr_left fun x _ => by rw [onI_nat hi]
    rw [this]
theorem F28_eqn {l : List Rec} (hl : l.length < 100000) (line : Int) : F28 (line, l, ()) = some (cntI (lineG line l) 35, ()) := by
  have key : ∀ t : List Int, F26 (line, l, ()) = some (t, ()) → F28 (line, l, ()) = some (cntI t 35, ()) := by
    intro t h
    show obnd (F26 (line, l, ())) _ = _
    rw [h]
    rfl
  by_cases ho : line < 0 ∨ 6 < line
  · rw [key [] (F26_none ho), lineG_out ho, cntI_low]
    rfl
  · obtain ⟨i, rfl⟩ : ∃ i : Nat, line = i := ⟨line.toNat, by omega⟩
    have hi : i < 7 := by omega
    rw [key (lineI i l) (F26_eqn hi (by omega))]
    have : lineG (i : Int) l = lineI i l := by
      unfold lineG lineI
      exact List.map_congr_left fun x _ => by rw [onI_nat hi]
    rw [this]

/-- WaveDraws answers true -/
theorem F6_true (l : List Rec) (line : Int) : F6 (l, line, ()) = some (true, ()) := by
  show br (ilt 200 (len l)) _ (obnd (L6_0 fuel (l, line, [], 0, [], pads, ())) _) = _
  by_cases hs : 200 < len l
  · rw [ilt_t hs]; rfl
  · rw [ilt_f hs]
    have hl : l.length ≤ 200 := by unfold len at hs; omega
    have e64 := L64_eqn (l := l) (by omega) (line := line) (tx := textI l) l 0 fuel 0 0 [] rfl (by unfold fuel; omega) (by omega) (by omega) (by omega) (by omega) (by simp; omega)
    have e27 := F27_eqn (l := l) (by omega) line
    have e28 := F28_eqn (l := l) (by omega) line
    have e14 := F14_text (l := l) (by omega)
    have e15 := F15_eqn (l := l) (by omega)
    have e29 := F29_eqn (l := l.map bareI) (by rw [List.length_map]; omega)
    rw [L60_eqn (by omega)]
    show obnd (L6_4 fuel (l, line, textI l, 0, 0, 0, [], ())) _ = _
    rw [show L6_4 fuel (l, line, textI l, 0, 0, 0, [], ()) = _ from e64]
    have tail : (obnd (F14 (textI l, ())) fun y => obnd (F15 (l, ())) fun y_1 => br (seq y_1.1 (textI l)) (obnd (F27 (line, l, ())) fun y_2 => br (ieq y_2.1 (0 + cnt2 95 35 (95 :: lineG line l))) (obnd (F28 (line, l, ())) fun y_3 => br (ieq y_3.1 (0 + cntI (lineG line l) 35)) (obnd (F29 (y.1, l.map bareI, ())) fun y_4 => br y_4.1 (br (ieq y.2.1 0) (obnd (F16 ()) fun y_5 => some (y_5.1, ())) (some (false, ()))) (some (false, ()))) (some (false, ()))) (some (false, ()))) (some (false, ()))) = some (true, ()) := by
      rw [e14]
      show (obnd (F15 (l, ())) fun y_1 => br (seq y_1.1 (textI l)) (obnd (F27 (line, l, ())) fun y_2 => br (ieq y_2.1 (0 + cnt2 95 35 (95 :: lineG line l))) (obnd (F28 (line, l, ())) fun y_3 => br (ieq y_3.1 (0 + cntI (lineG line l) 35)) (obnd (F29 (l.map bareI, l.map bareI, ())) fun y_4 => br y_4.1 (br (ieq 0 0) (obnd (F16 ()) fun y_5 => some (y_5.1, ())) (some (false, ()))) (some (false, ()))) (some (false, ()))) (some (false, ()))) (some (false, ()))) = _
      rw [e15, e27, e28, e29, F16_true]
      show br (seq (textI l) (textI l)) (br (ieq (cnt2 95 35 (95 :: lineG line l)) (0 + cnt2 95 35 (95 :: lineG line l))) (br (ieq (cntI (lineG line l) 35) (0 + cntI (lineG line l) 35)) (br true (br (ieq 0 0) (some (true, ())) (some (false, ()))) (some (false, ()))) (some (false, ()))) (some (false, ()))) (some (false, ())) = _
      rw [show seq (textI l) (textI l) = true from by simp [seq], ieq_t (by omega), ieq_t (by omega)]
      rfl
    by_cases h0 : line < 0
    · show br (ilt line 0) (obnd (F26 (line, l, ())) _) _ = _
      rw [ilt_t h0, F26_none (.inl h0)]
      exact tail
    · by_cases h6 : 6 < line
      · show br (ilt line 0) _ (br (ilt 6 line) (obnd (F26 (line, l, ())) _) _) = _
        rw [ilt_f h0, ilt_t h6, F26_none (.inr h6)]
        exact tail
      · show br (ilt line 0) _ (br (ilt 6 line) _ _) = _
        rw [ilt_f h0, ilt_f h6]
        exact tail
end W
end Go.SX
