/- PinsTexts, the plain law, part 3: reading; the whole. -/
import Derived.Test.YtmblgpbcclpgjaaDoorSxPinsB
set_option maxRecDepth 100000
namespace Go.SX
namespace W
set_option linter.unusedVariables false
set_option linter.unusedSimpArgs false

theorem L212_eqn {ws : List (List Int)} {a b : Int} {p : Pn} : ∀ (q n j k : Nat) (out : List Pn), j + q = n → q < k → n < 1000000 → out.length + q < 1000000 → L21_2 k (ws, a, b, (n : Int), (j : Int), out, p, ()) = some (.out (ws, a, b, out ++ List.replicate q p, ()))
  | 0, n, j, k + 1, out, hj, hk, hn, ho => by
    show br (ilt (j : Int) (n : Int)) _ _ = _
    rw [ilt_f (by omega)]
    simp only [br_f]
    rw [show List.replicate 0 p = [] from rfl, List.append_nil]
  | q + 1, n, j, k + 1, out, hj, hk, hn, ho => by
    have ih := L212_eqn (ws := ws) (a := a) (b := b) (p := p) q n (j + 1) k (app out [p]) (by omega) (by omega) hn (by simp [app]; omega)
    show br (ilt (j : Int) (n : Int)) (chk (fits out [p]) ((L21_2 k) (ws, a, b, (n : Int), iadd .i64 (j : Int) 1, app out [p], p, ()))) _ = _
    rw [ilt_t (by omega), fits_t (by simp; omega), iadd64 (by omega) (by omega)]
    show L21_2 k (ws, a, b, (n : Int), ((j + 1 : Nat) : Int), app out [p], p, ()) = _
    rw [ih]
    simp [app, List.replicate_succ]
  | _, _, _, 0, _, _, hk, _, _ => by omega

theorem L210_eqn {ws : List (List Int)} (hws : ws.length < 1000000) : ∀ (gs : List (Pn × Nat)) (i k : Nat) (out : List Pn), ws.drop i = gs.map wordI → gs.length < k → (∀ g ∈ gs, 1 ≤ g.2 ∧ g.2 ≤ 300) → out.length + (decI gs).length ≤ 300 →
    L21_0 k (ws, len ws, (i : Int), out, ()) = some (.out (out ++ decI gs, ()))
  | [], i, k + 1, out, h, hk, hg, ho => by
    show br (ilt (i : Int) (len ws)) _ _ = _
    rw [at_nil (by rw [h]; rfl)]
    rw [show decI [] = [] from rfl, List.append_nil]
    rfl
  | g :: gs, i, k + 1, out, h, hk, hg, ho => by
    obtain ⟨h1, h2, h3, h4, h5⟩ := at_cons Ty.str (l := ws) (m := gs.map wordI) (x := wordI g) (by rw [h]; rfl) (by omega)
    obtain ⟨g1, g2⟩ := hg g List.mem_cons_self
    simp only [List.length_cons] at hk
    have hd : decI (g :: gs) = List.replicate g.2 g.1 ++ decI gs := rfl
    rw [hd, List.length_append, List.length_replicate] at ho
    have ih := L210_eqn hws gs (i + 1) k (out ++ List.replicate g.2 g.1) h5 (by omega) (fun x hx => hg x (List.mem_cons_of_mem _ hx)) (by simp; omega)
    have e212 := L212_eqn (ws := ws) (a := len ws) (b := (i : Int)) (p := g.1) g.2 g.2 0 fuel out (by omega) (by unfold fuel; omega) (by omega) (by omega)
    have hne : seq (wordI g) [] = false := by simp [seq, wordI_ne g]
    show br (ilt (i : Int) (len ws)) (chk (inb (i : Int) (len ws)) (br (seq (rd Ty.str ws (i : Int)) []) _ (obnd (F42 (rd Ty.str ws (i : Int), ())) _))) _ = _
    rw [h1, h2, h3, hne, F42_word g1 g2]
    show br (ilt (isub .i64 4096 (len out)) (g.2 : Int)) _ (obnd (L21_2 fuel (ws, len ws, (i : Int), (g.2 : Int), 0, out, g.1, ())) _) = _
    have e3 : isub .i64 4096 (len out) = 4096 - (out.length : Int) := isub64 (by unfold len; omega) (by unfold len; omega)
    rw [e3, ilt_f (by omega), show L21_2 fuel (ws, len ws, (i : Int), (g.2 : Int), 0, out, g.1, ()) = _ from e212]
    show L21_0 k (ws, len ws, iadd .i64 (i : Int) 1, out ++ List.replicate g.2 g.1, ()) = _
    rw [h4, ih, hd, List.append_assoc]
  | _, _, 0, _, _, hk, _, _ => by omega

/-- the text of pins, and back -/
def txtI (l : List Pn) : List Int := joinI ((encI l.length l).map wordI) [32]

theorem enc_facts {l : List Pn} (hl : l.length ≤ 300) : ∀ g ∈ encI l.length l, 1 ≤ g.2 ∧ g.2 ≤ 300 := fun g hg => by
  have := enc_bd _ _ g hg
  omega

theorem joinT_len : ∀ (ws : List (List Int)), (∀ w ∈ ws, w.length ≤ 13) → (joinT [32] ws).length ≤ 14 * ws.length
  | [], _ => by simp [joinT]
  | w :: ws, h => by
    have := joinT_len ws fun v hv => h v (List.mem_cons_of_mem _ hv)
    have := h w List.mem_cons_self
    simp [joinT]
    omega
theorem txt_len {l : List Pn} (hl : l.length ≤ 300) : (txtI l).length ≤ 5000 := by
  have he := enc_facts hl
  have hn := enc_len l.length l
  have hw : ∀ w ∈ (encI l.length l).map wordI, w.length ≤ 13 := fun w hw => by
    obtain ⟨g, hg, rfl⟩ := List.mem_map.1 hw
    exact wordI_len (he g hg).2
  unfold txtI
  generalize hws : (encI l.length l).map wordI = ws at *
  have hlen : ws.length ≤ 300 := by rw [← hws, List.length_map]; omega
  cases ws with
  | nil => simp [joinI]
  | cons w ws =>
    have h1 := hw w List.mem_cons_self
    have h2 := joinT_len ws fun v hv => hw v (List.mem_cons_of_mem _ hv)
    simp [joinI] at hlen ⊢
    omega

theorem F20_eqn {l : List Pn} (hl : l.length ≤ 300) : F20 (l, ()) = some (txtI l, ()) := by
  have e := L200_eqn hl l.length l 0 fuel [] rfl (Nat.le_refl _) (by unfold fuel; omega) (by simp; omega)
  have hln := txt_len hl
  have hn := enc_len l.length l
  show obnd (L20_0 fuel (l, 0, [], ())) _ = _
  rw [show L20_0 fuel (l, 0, [], ()) = _ from e]
  show obnd (F41 ((encI l.length l).map wordI, [32], ())) _ = _
  have e41 : F41 ((encI l.length l).map wordI, [32], ()) = some (txtI l, ()) := by
    show (bif decide ((txtI l).length < 1099511627776) && decide (((encI l.length l).map wordI).length < 1099511627776) then some (txtI l, ()) else none) = _
    rw [List.length_map, decide_eq_true (by omega), decide_eq_true (by omega)]
    rfl
  rw [e41]
  rfl
theorem F22_eqn {l : List Pn} (hl : l.length ≤ 300) : F22 (l, ()) = some (txtI l, ()) := by
  have e := L220_eqn hl l.length l 0 fuel [] rfl (Nat.le_refl _) (by unfold fuel; omega) (by simp; omega)
  show obnd (L22_0 fuel (l, [], 0, ())) _ = _
  rw [show L22_0 fuel (l, [], 0, ()) = _ from e]
  rfl
theorem F21_eqn {l : List Pn} (hl : l.length ≤ 300) : F21 (txtI l, ()) = some (l, 0, ()) := by
  have he := enc_facts hl
  have hdec := dec_enc l.length l (Nat.le_refl _)
  have hn := enc_len l.length l
  have hln := txt_len hl
  have fin : ∀ (ws : List (List Int)) (out : List Pn), L21_0 fuel (ws, len ws, 0, [], ()) = some (.out (out, ())) → F35 (txtI l, [32], ()) = some (ws, ()) → F21 (txtI l, ()) = some (out, 0, ()) := by
    intro ws out h1 h2
    show obnd (F35 (txtI l, [32], ())) _ = _
    rw [h2]
    show obnd (L21_0 fuel (ws, len ws, 0, [], ())) _ = _
    rw [h1]
    rfl
  cases hgs : encI l.length l with
  | nil =>
    have ht : txtI l = [] := by unfold txtI; rw [hgs]; rfl
    rw [hgs] at hdec
    have hl0 : l = [] := hdec.symm
    subst hl0
    exact fin [[]] [] (by kernel_rfl) (by rw [ht, F35_one _ _ (by simp)]; rfl)
  | cons g gs =>
    have ht : txtI l = wordI g ++ joinT [32] (gs.map wordI) := by unfold txtI; rw [hgs]; rfl
    rw [hgs] at hdec he hn
    simp only [List.length_cons] at hn
    have e := L210_eqn (ws := (g :: gs).map wordI) (by simp; omega) (g :: gs) 0 fuel [] rfl (by unfold fuel; simp; omega) he (by rw [hdec]; simp; omega)
    rw [hdec] at e
    refine fin ((g :: gs).map wordI) l e ?_
    rw [F35_one _ _ (by omega), ht, split_join _ _ (wordI_32 (he g List.mem_cons_self).2) fun v hv => ?_]
    · rfl
    · obtain ⟨g', hg', rfl⟩ := List.mem_map.1 hv
      exact wordI_32 (he g' (List.mem_cons_of_mem _ hg')).2

theorem L23_eqn {l : List Pn} (hl : l.length < 1000000) : ∀ (m : List Pn) (i k : Nat), l.drop i = m → m.length < k → L23_0 k (l, l, len l, (i : Int), ()) = some (.out ())
  | [], i, k + 1, h, hk => by
    show br _ _ _ = _
    rw [at_nil h]; rfl
  | x :: m, i, k + 1, h, hk => by
    obtain ⟨h1, h2, h3, h4, h5⟩ := at_cons y4 h (by omega)
    simp only [List.length_cons] at hk
    show br _ (chk _ (chk _ (br (bnot (eqD y4 _ _)) _ _))) _ = _
    rw [h1, h2, h3, h4, eqD_y4.2 rfl]
    simp only [br_t, chk_t]
    exact L23_eqn hl m (i + 1) k h5 (by omega)
  | _, _, 0, _, hk => by omega
theorem F23_eqn {l : List Pn} (hl : l.length < 1000000) : F23 (l, l, ()) = some (true, ()) := by
  have e := L23_eqn hl l 0 fuel rfl (by unfold fuel; omega)
  show br (bnot (ieq (len l) (len l))) _ (obnd (L23_0 fuel (l, l, len l, 0, ())) _) = _
  rw [show L23_0 fuel (l, l, len l, 0, ()) = _ from e, ieq_t rfl]
  rfl
theorem F24_true : F24 () = some (true, ()) := by kernel_rfl

theorem L5_eqn {l : List Pn} (hl : l.length < 1000000) : ∀ (m : List Pn) (i k : Nat), l.drop i = m → m.length < k → L5_0 k (l, (i : Int), ()) = some (.out (l, ()))
  | [], i, k + 1, h, hk => by
    show br _ _ _ = _
    rw [at_nil h]; rfl
  | x :: m, i, k + 1, h, hk => by
    obtain ⟨h1, h2, h3, h4, h5⟩ := at_cons y4 h (by omega)
    simp only [List.length_cons] at hk
    have hw := wdOk x
    have ih := L5_eqn hl m (i + 1) k h5 (by omega)
    show br _ (chk _ (obnd (F18 (rd y4 l (i : Int), ())) _)) _ = _
    rw [h1, h2, h3, hw.f18, hw.f19]
    show obnd (F17 (wdI x, ())) _ = _
    rw [hw.f17]
    show br (bnot (seq (wdI x) (wdI x))) _ (br (bnot (eqD y4 x x)) _ (L5_0 k (l, iadd .i64 (i : Int) 1, ()))) = _
    rw [show seq (wdI x) (wdI x) = true from by simp [seq], eqD_y4.2 rfl, h4]
    exact ih
  | _, _, 0, _, hk => by omega

/-- PinsTexts answers true -/
theorem F5_true (l : List Pn) : F5 (l, ()) = some (true, ()) := by
  show br (ilt 300 (len l)) _ (obnd (L5_0 fuel (l, 0, ())) _) = _
  by_cases hs : 300 < len l
  · rw [ilt_t hs]; rfl
  · rw [ilt_f hs]
    have hl : l.length ≤ 300 := by unfold len at hs; omega
    rw [show L5_0 fuel (l, 0, ()) = _ from L5_eqn (by omega) l 0 fuel rfl (by unfold fuel; omega)]
    show obnd (F20 (l, ())) _ = _
    rw [F20_eqn hl]
    show obnd (F21 (txtI l, ())) _ = _
    rw [F21_eqn hl]
    show obnd (F22 (l, ())) _ = _
    rw [F22_eqn hl]
    show br (seq (txtI l) (txtI l)) (obnd (F23 (l, l, ())) _) _ = _
    rw [show seq (txtI l) (txtI l) = true from by simp [seq], F23_eqn (by omega)]
    show obnd (F24 ()) _ = _
    rw [F24_true]
    rfl
end W
end Go.SX
