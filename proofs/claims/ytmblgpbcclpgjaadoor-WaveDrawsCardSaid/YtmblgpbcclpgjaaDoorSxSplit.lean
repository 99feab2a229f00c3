/- strings.Split at one byte, as the typed evaluator has it. -/
import Derived.Test.YtmblgpbcclpgjaaDoorSxK4
import Derived.Test.YtmblgpbcclpgjaaDoorSxA
namespace Go.SX
namespace W
set_option linter.unusedVariables false
set_option linter.unusedSimpArgs false

theorem F65_one (s : List Int) (c : Int) : F65 (s, [c], ()) = some (ixI s c, ()) := by
  show obnd (br (ieq 1 0) _ (br (seq [c] s) (some (0, ())) (br (ieq 1 1) (chk (inb 0 1) (obnd (obnd (some (ixI s c, ())) _) _)) _))) _ = _
  rw [show ieq 1 0 = false from rfl, show ieq 1 1 = true from rfl, show inb 0 1 = true from rfl]
  simp only [br_f, br_t, chk_t, obnd_s]
  cases h : seq [c] s with
  | false => rfl
  | true =>
    have : [c] = s := by simpa [seq] using h
    subst this
    show some (0, ()) = some (ixI [c] c, ())
    simp [ixI]
theorem F45_one (s : List Int) (c : Int) : F45 (s, [c], ()) = some (cntI s c, ()) := rfl

theorem L51_run {c : Int} : ∀ (n i k : Nat) (s : List Int) (a : List (List Int)), cntI s c = n → a.length = i + n + 1 → n < k → s.length < 1099511627776 → a.length < 1099511627776 →
    ∃ (a' : List (List Int)) (s' : List Int), L51_0 k (s, [c], 0, ((i + n : Nat) : Int), (i : Int), a, ()) = some (.out (s', ((i + n : Nat) : Int), a', ())) ∧ a'.length = a.length ∧ (upd a' ((i + n : Nat) : Int) s').take (i + n + 1) = a.take i ++ splitC c s
  | 0, i, k + 1, s, a, hc, ha, hk, hs, hal => by
    refine ⟨a, s, ?_, rfl, ?_⟩
    · show br (ilt ((i : Nat) : Int) ((i + 0 : Nat) : Int)) _ _ = _
      rw [ilt_f (by omega)]
      rfl
    · rw [(ix_none s hc).2]
      show (a.set i s).take (i + 1) = _
      rw [List.take_add_one, List.take_set_of_le (by omega), List.getElem?_set_self (by omega)]
      rfl
  | n + 1, i, k + 1, s, a, hc, ha, hk, hs, hal => by
    obtain ⟨m, h1, h2, h3, h4⟩ := ix_some s (by rw [hc]; omega)
    have e1 : ((i + (n + 1) : Nat) : Int) = ((i + 1 + n : Nat) : Int) := by omega
    obtain ⟨a', s', q1, q2, q3⟩ := L51_run n (i + 1) k (s.drop (m + 1)) (upd a (i : Int) (s.take m)) (by rw [h4, hc]; omega) (by rw [len_upd, ha]; omega) (by omega) (by rw [List.length_drop]; omega) (by rw [len_upd]; exact hal)
    have e0 : iadd .i64 (m : Int) 0 = (m : Int) := by rw [iadd64 (by omega) (by omega)]; omega
    have e2 : iadd .i64 (m : Int) (len [c]) = ((m + 1 : Nat) : Int) := by
      show iadd .i64 (m : Int) 1 = _
      rw [iadd64 (by omega) (by omega)]; omega
    have e3 : iadd .i64 (i : Int) 1 = ((i + 1 : Nat) : Int) := by rw [iadd64 (by omega) (by omega)]; omega
    refine ⟨a', s', ?_, by rw [q2, len_upd], ?_⟩
    · show br (ilt (i : Int) ((i + (n + 1) : Nat) : Int)) (obnd (F65 (s, [c], ())) fun y => br (ilt y.1 0) _ (chk (inp 0 (iadd .i64 y.1 0) (len s)) (chk (inb (i : Int) (len a)) (chk (inp (iadd .i64 y.1 (len [c])) (len s) (len s)) ((L51_0 k) (part s (iadd .i64 y.1 (len [c])) (len s), [c], 0, ((i + (n + 1) : Nat) : Int), iadd .i64 (i : Int) 1, upd a (Int.ofNat (tn (i : Int))) (part s 0 (iadd .i64 y.1 0)), ())))))) _ = _
      rw [F65_one, ilt_t (by omega)]
      simp only [br_t, obnd_s]
      rw [h1, ilt_f (by omega), e0, e2, e3, inp_t (by omega) (by omega) (by unfold len; omega), inb_t (by omega) (by unfold len; omega), inp_t (by omega) (by unfold len; omega) (by omega)]
      simp only [br_f, chk_t]
      rw [part0, partE, e1, tn_nat]
      exact q1
    · rw [e1, show i + (n + 1) + 1 = i + 1 + n + 1 from by omega, q3, h3]
      show (a.set i (s.take m)).take (i + 1) ++ _ = _
      rw [List.take_add_one, List.take_set_of_le (by omega), List.getElem?_set_self (by omega)]
      simp
  | _, _, 0, _, _, _, _, hk, _, _ => by omega

/-- strings.Split at one byte -/
theorem F35_one (s : List Int) (c : Int) (hs : s.length < 1000000000000) : F35 (s, [c], ()) = some (splitC c s, ()) := by
  have hr := cnt_range s c
  obtain ⟨n, hn⟩ : ∃ n : Nat, cntI s c = n := ⟨(cntI s c).toNat, by omega⟩
  have hnl : n ≤ s.length := by omega
  have e1 : iadd .i64 (cntI s c) 1 = ((n + 1 : Nat) : Int) := by rw [hn, iadd64 (by omega) (by omega)]; omega
  have e2 : iadd .i64 (len s) 1 = ((s.length + 1 : Nat) : Int) := by unfold len; rw [iadd64 (by omega) (by omega)]; omega
  have e3 : imin ((n + 1 : Nat) : Int) ((s.length + 1 : Nat) : Int) = ((n + 1 : Nat) : Int) := by unfold imin; rw [if_neg (by omega)]
  have e4 : isub .i64 ((n + 1 : Nat) : Int) 1 = ((0 + n : Nat) : Int) := by rw [isub64 (by omega) (by omega)]; omega
  have hz : (zeros Ty.str ((n + 1 : Nat) : Int)).length = 0 + n + 1 := by simp [zeros]
  obtain ⟨a', s', q1, q2, q3⟩ := L51_run n 0 fuel s (zeros Ty.str ((n + 1 : Nat) : Int)) hn hz (by unfold fuel; omega) (by omega) (by rw [hz]; omega)
  have hla : a'.length = n + 1 := by rw [q2, hz]; omega
  have e5 : iadd .i64 ((0 + n : Nat) : Int) 1 = ((n + 1 : Nat) : Int) := by rw [iadd64 (by omega) (by omega)]; omega
  have hlu : len (upd a' ((0 + n : Nat) : Int) s') = ((n + 1 : Nat) : Int) := by unfold len; rw [len_upd, hla]
  show obnd (br (ieq (-1) 0) _ (br (seq [c] []) _ (br (ilt (-1) 0) (obnd (F45 (s, [c], ())) fun y => chk (inp (imin (iadd .i64 y.1 1) (iadd .i64 (len s) 1)) (imin (iadd .i64 y.1 1) (iadd .i64 (len s) 1)) 1099511627775)
    (chk (ile 0 (imin (iadd .i64 y.1 1) (iadd .i64 (len s) 1))) (obnd (L51_0 fuel (s, [c], 0, isub .i64 (imin (iadd .i64 y.1 1) (iadd .i64 (len s) 1)) 1, 0, zeros Ty.str (imin (iadd .i64 y.1 1) (iadd .i64 (len s) 1)), ())) fun r => lcase r some fun b =>
      chk (inb b.2.1 (len b.2.2.1)) (chk (inp 0 (iadd .i64 b.2.1 1) (len (upd b.2.2.1 (Int.ofNat (tn b.2.1)) b.1))) (chk (ile (len (upd b.2.2.1 (Int.ofNat (tn b.2.1)) b.1)) (len (upd b.2.2.1 (Int.ofNat (tn b.2.1)) b.1)))
        (some (part (upd b.2.2.1 (Int.ofNat (tn b.2.1)) b.1) 0 (iadd .i64 b.2.1 1), ()))))))) _))) (fun y => some (y.1, ())) = _
  rw [show ieq (-1) 0 = false from rfl, show seq [c] [] = false from by simp [seq], show ilt (-1) 0 = true from rfl, F45_one]
  simp only [br_f, br_t, obnd_s]
  rw [e1, e2, e3, e4, inp_t (by omega) (by omega) (by omega), ile_t (by omega)]
  simp only [chk_t]
  rw [show L51_0 fuel (s, [c], 0, ((0 + n : Nat) : Int), 0, zeros Ty.str ((n + 1 : Nat) : Int), ()) = _ from q1]
  show obnd (chk (inb ((0 + n : Nat) : Int) (len a')) (chk (inp 0 (iadd .i64 ((0 + n : Nat) : Int) 1) (len (upd a' ((0 + n : Nat) : Int) s'))) (chk (ile (len (upd a' ((0 + n : Nat) : Int) s')) (len (upd a' ((0 + n : Nat) : Int) s'))) (some (part (upd a' ((0 + n : Nat) : Int) s') 0 (iadd .i64 ((0 + n : Nat) : Int) 1), ()))))) (fun y => some (y.1, ())) = _
  rw [e5, hlu, inb_t (by omega) (by unfold len; rw [hla]; omega), inp_t (by omega) (by omega) (by omega), ile_t (by omega)]
  simp only [chk_t, obnd_s]
  have e6 : part (upd a' ((0 + n : Nat) : Int) s') 0 ((n + 1 : Nat) : Int) = (upd a' ((0 + n : Nat) : Int) s').take (0 + n + 1) := by
    unfold part
    rw [show ((n + 1 : Nat) : Int).toNat = 0 + n + 1 from by omega]
    rfl
  rw [e6, q3]
  rfl
end W
end Go.SX
