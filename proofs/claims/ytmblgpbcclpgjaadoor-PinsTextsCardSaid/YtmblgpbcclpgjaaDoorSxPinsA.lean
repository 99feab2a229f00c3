/- PinsTexts, the plain law, part 1: words, numbers, pieces. -/
import Derived.Test.YtmblgpbcclpgjaaDoorSxSplit
import Derived.Test.YtmblgpbcclpgjaaDoorSxC
set_option maxRecDepth 100000
namespace Go.SX
namespace W
set_option linter.unusedVariables false
set_option linter.unusedSimpArgs false
abbrev Pn := y4.D

theorem eqD_y4 {x y : Pn} : eqD y4 x y = true ↔ x = y := by
  obtain ⟨a, b, c, d, e, f, u⟩ := x
  obtain ⟨a', b', c', d', e', f', u'⟩ := y
  simp [eqD]

def okc (c : Int) : Bool := !(c == 42) && !(c == 32)
def chkP (p : Pn) : Bool := match F18 (p, ()), F19 (p, ()) with
  | some (s, _), some (t, _) => s == t && ((match F17 (s, ()) with
    | some (q, b, _) => eqD y4 q p && b
    | none => false) && (!s.isEmpty && (s.all okc && Nat.ble s.length 6)))
  | _, _ => false
theorem chkP_all (p : Pn) : chkP p = true := by
  obtain ⟨a, b, c, d, e, f, u⟩ := p
  cases a <;> cases b <;> cases c <;> cases d <;> cases e <;> cases f <;> kernel_rfl
def wdI (p : Pn) : List Int := match F18 (p, ()) with
  | some (s, _) => s
  | none => []
structure WdOk (p : Pn) : Prop where
  f18 : F18 (p, ()) = some (wdI p, ())
  f19 : F19 (p, ()) = some (wdI p, ())
  f17 : F17 (wdI p, ()) = some (p, true, ())
  ne : wdI p ≠ []
  okc : ∀ c ∈ wdI p, c ≠ 42 ∧ c ≠ 32
  len : (wdI p).length ≤ 6
theorem okc_iff {c : Int} (h : okc c = true) : c ≠ 42 ∧ c ≠ 32 := by simpa [okc] using h
theorem wdOk (p : Pn) : WdOk p := by
  have h := chkP_all p
  unfold chkP at h
  split at h
  · rename_i s u1 t u2 e1 e2
    simp only [Bool.and_eq_true, beq_iff_eq, Bool.not_eq_true', List.isEmpty_eq_false_iff, List.all_eq_true, Nat.ble_eq] at h
    obtain ⟨h1, h2, h3, h4, h5⟩ := h
    have hw : wdI p = s := by unfold wdI; rw [e1]
    subst hw
    refine ⟨e1, by rw [e2, ← h1], ?_, h3, fun c hc => okc_iff (h4 c hc), h5⟩
    split at h2
    · rename_i q b u3 e3
      simp only [Bool.and_eq_true] at h2
      rw [e3, h2.2, eqD_y4.1 h2.1]
    · cases h2
  · cases h

def chkN (n : Nat) : Bool := match F40 ((n : Int), ()), F30 ((n : Int), 10, 1, ()) with
  | some (s, _), some (t, _) => s == t && ((match F62 (s, ()) with
    | some (m, b, _) => m == (n : Int) && b
    | none => false) && (s.all okc && Nat.ble s.length 6))
  | _, _ => false
theorem chkN_all : (List.range 301).all chkN = true := by kernel_rfl
def dgI (n : Nat) : List Int := match F40 ((n : Int), ()) with
  | some (s, _) => s
  | none => []
structure DgOk (n : Nat) : Prop where
  f40 : F40 ((n : Int), ()) = some (dgI n, ())
  f30 : F30 ((n : Int), 10, 1, ()) = some (dgI n, ())
  f62 : F62 (dgI n, ()) = some ((n : Int), true, ())
  okc : ∀ c ∈ dgI n, c ≠ 42 ∧ c ≠ 32
  len : (dgI n).length ≤ 6
theorem dgOk {n : Nat} (hn : n ≤ 300) : DgOk n := by
  have h := List.all_eq_true.1 chkN_all n (List.mem_range.2 (by omega))
  unfold chkN at h
  split at h
  · rename_i s u1 t u2 e1 e2
    simp only [Bool.and_eq_true, beq_iff_eq, List.all_eq_true, Nat.ble_eq] at h
    obtain ⟨h1, h2, h4, h5⟩ := h
    have hw : dgI n = s := by unfold dgI; rw [e1]
    subst hw
    refine ⟨e1, by rw [e2, ← h1], ?_, fun c hc => okc_iff (h4 c hc), h5⟩
    split at h2
    · rename_i q b u3 e3
      simp only [Bool.and_eq_true, beq_iff_eq] at h2
      rw [e3, h2.2, h2.1]
    · cases h2
  · cases h

/-- a word: the pins, and for how many cycles -/
def wordI (g : Pn × Nat) : List Int := bif Nat.blt 1 g.2 then wdI g.1 ++ (42 :: dgI g.2) else wdI g.1

theorem wordI_ne (g : Pn × Nat) : wordI g ≠ [] := by
  have := (wdOk g.1).ne
  unfold wordI
  cases Nat.blt 1 g.2 <;> simp [this]
theorem wordI_32 {g : Pn × Nat} (hn : g.2 ≤ 300) : ∀ c ∈ wordI g, c ≠ 32 := by
  intro c hc
  unfold wordI at hc
  cases h : Nat.blt 1 g.2 with
  | false => rw [h] at hc; exact ((wdOk g.1).okc c hc).2
  | true =>
    rw [h] at hc
    rcases List.mem_append.1 (show c ∈ wdI g.1 ++ (42 :: dgI g.2) from hc) with hc | hc
    · exact ((wdOk g.1).okc c hc).2
    · rcases List.mem_cons.1 hc with rfl | hc
      · decide
      · exact ((dgOk hn).okc c hc).2
theorem wordI_len {g : Pn × Nat} (hn : g.2 ≤ 300) : (wordI g).length ≤ 13 := by
  have h1 := (wdOk g.1).len
  have h2 := (dgOk hn).len
  unfold wordI
  cases Nat.blt 1 g.2 <;> simp <;> omega

/-! cutting at a byte -/
theorem ix_not {c : Int} : ∀ (w : List Int), (∀ x ∈ w, x ≠ c) → ixI w c = -1
  | [], _ => rfl
  | b :: w, h => by
    have hb : (b == c) = false := by rw [beq_eq_false_iff_ne]; exact h b List.mem_cons_self
    rw [ix_cons, hb, ix_not w fun x hx => h x (List.mem_cons_of_mem _ hx)]
    rfl
theorem ix_at {c : Int} (d : List Int) : ∀ (w : List Int), (∀ x ∈ w, x ≠ c) → ixI (w ++ c :: d) c = w.length
  | [], _ => by simp [ix_cons]
  | b :: w, h => by
    have hb : (b == c) = false := by rw [beq_eq_false_iff_ne]; exact h b List.mem_cons_self
    have ih := ix_at d w fun x hx => h x (List.mem_cons_of_mem _ hx)
    rw [List.cons_append, ix_cons, hb, ih]
    have : ((w.length : Int) == -1) = false := by rw [beq_eq_false_iff_ne]; omega
    rw [this]
    simp
theorem F75_one (s : List Int) (c : Int) : F75 (s, [c], ()) = some (ixI s c, ()) := by
  show br (ieq 1 0) _ (br (seq [c] s) (some (0, ())) (br (ieq 1 1) (chk (inb 0 1) (obnd (obnd (some (ixI s c, ())) _) _)) _)) = _
  rw [show ieq 1 0 = false from rfl, show ieq 1 1 = true from rfl, show inb 0 1 = true from rfl]
  simp only [br_f, br_t, chk_t, obnd_s]
  cases h : seq [c] s with
  | false => rfl
  | true =>
    have : [c] = s := by simpa [seq] using h
    subst this
    show some (0, ()) = some (ixI [c] c, ())
    simp [ixI]
theorem F61_not {s : List Int} (h : ∀ x ∈ s, x ≠ 42) : F61 (s, [42], ()) = some (s, [], false, ()) := by
  show obnd (obnd (F75 (s, [42], ())) _) _ = _
  rw [F75_one, ix_not s h]
  rfl
theorem F61_at {w d : List Int} (h : ∀ x ∈ w, x ≠ 42) (hl : (w ++ 42 :: d).length < 1000000) : F61 (w ++ 42 :: d, [42], ()) = some (w, d, true, ()) := by
  simp at hl
  show obnd (obnd (F75 (w ++ 42 :: d, [42], ())) fun y => br (ile 0 y.1) (chk (inp 0 y.1 (len (w ++ 42 :: d))) (chk (inp (iadd .i64 y.1 (len ([42] : List Int))) (len (w ++ 42 :: d)) (len (w ++ 42 :: d))) (some (part (w ++ 42 :: d) 0 y.1, part (w ++ 42 :: d) (iadd .i64 y.1 (len ([42] : List Int))) (len (w ++ 42 :: d)), true, ())))) (some (w ++ 42 :: d, [], false, ()))) (fun y => some (y.1, y.2.1, y.2.2.1, ())) = _
  rw [F75_one, ix_at d w h]
  have e2 : iadd .i64 (w.length : Int) (len ([42] : List Int)) = ((w.length + 1 : Nat) : Int) := by
    show iadd .i64 (w.length : Int) 1 = _
    rw [iadd64 (by omega) (by omega)]; omega
  have hlen : len (w ++ 42 :: d) = ((w.length + 1 + d.length : Nat) : Int) := by unfold len; simp; omega
  show obnd (br (ile 0 (w.length : Int)) (chk (inp 0 (w.length : Int) (len (w ++ 42 :: d))) (chk (inp (iadd .i64 (w.length : Int) (len ([42] : List Int))) (len (w ++ 42 :: d)) (len (w ++ 42 :: d))) (some (part (w ++ 42 :: d) 0 (w.length : Int), part (w ++ 42 :: d) (iadd .i64 (w.length : Int) (len ([42] : List Int))) (len (w ++ 42 :: d)), true, ())))) (some (w ++ 42 :: d, [], false, ()))) (fun y => some (y.1, y.2.1, y.2.2.1, ())) = _
  rw [e2, part0, partE, hlen, ile_t (by omega), inp_t (by omega) (by omega) (by omega), inp_t (by omega) (by omega) (by omega)]
  simp

/-- a piece is read as it was written -/
theorem F42_word {g : Pn × Nat} (h1 : 1 ≤ g.2) (hn : g.2 ≤ 300) : F42 (wordI g, ()) = some (g.1, (g.2 : Int), 0, ()) := by
  obtain ⟨p, n⟩ := g
  have hw := wdOk p
  have hd := dgOk hn
  have h42 : ∀ c ∈ wdI p, c ≠ 42 := fun c hc => (hw.okc c hc).1
  show obnd (F61 (wordI (p, n), [42], ())) _ = _
  unfold wordI
  cases hb : Nat.blt 1 n with
  | false =>
    have : n = 1 := by
      have h2 : ¬ 1 < n := fun h => by
        have h3 : Nat.blt 1 n = true := by rw [Nat.blt_eq]; exact h
        rw [h3] at hb; cases hb
      simp at h1; omega
    subst this
    show obnd (F61 (wdI p, [42], ())) _ = _
    rw [F61_not h42]
    show obnd (F17 (wdI p, ())) _ = _
    rw [hw.f17]
    rfl
  | true =>
    have h2 : 1 < n := by rw [Nat.blt_eq] at hb; exact hb
    show obnd (F61 (wdI p ++ 42 :: dgI n, [42], ())) _ = _
    rw [F61_at h42 (by have := hw.len; have := hd.len; simp at *; omega)]
    show obnd (F17 (wdI p, ())) _ = _
    rw [hw.f17]
    show obnd (F62 (dgI n, ())) _ = _
    rw [hd.f62]
    show br (ieq (n : Int) 0) _ (some (p, (n : Int), 0, ())) = _
    rw [ieq_f (by omega)]
    rfl

/-! joining and cutting -/
theorem split_not {c : Int} : ∀ (w : List Int), (∀ x ∈ w, x ≠ c) → splitC c w = [w]
  | [], _ => rfl
  | b :: w, h => by
    have hb : (b == c) = false := by rw [beq_eq_false_iff_ne]; exact h b List.mem_cons_self
    rw [split_cons, hb, split_not w fun x hx => h x (List.mem_cons_of_mem _ hx)]
    rfl
theorem split_at {c : Int} (d : List Int) : ∀ (w : List Int), (∀ x ∈ w, x ≠ c) → splitC c (w ++ c :: d) = w :: splitC c d
  | [], _ => by simp [split_cons]
  | b :: w, h => by
    have hb : (b == c) = false := by rw [beq_eq_false_iff_ne]; exact h b List.mem_cons_self
    rw [List.cons_append, split_cons, hb, split_at d w fun x hx => h x (List.mem_cons_of_mem _ hx)]
    rfl
theorem split_join {c : Int} : ∀ (ws : List (List Int)) (w : List Int), (∀ x ∈ w, x ≠ c) → (∀ v ∈ ws, ∀ x ∈ v, x ≠ c) → splitC c (w ++ joinT [c] ws) = w :: ws
  | [], w, h, _ => by
    rw [show joinT [c] [] = [] from rfl, List.append_nil]
    exact split_not w h
  | v :: ws, w, h, hs => by
    rw [show joinT [c] (v :: ws) = c :: (v ++ joinT [c] ws) from by simp [joinT], split_at _ w h, split_join ws v (hs v List.mem_cons_self) fun u hu => hs u (List.mem_cons_of_mem _ hu)]
end W
end Go.SX
