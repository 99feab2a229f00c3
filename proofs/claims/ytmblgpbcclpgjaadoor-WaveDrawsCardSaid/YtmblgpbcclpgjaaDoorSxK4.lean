/- The typed evaluator of the model's code and its soundness, part 4: what is used to prove the law; it has no condition. -/
import Derived.Test.YtmblgpbcclpgjaaDoorSxK3
import Derived.Shelf.Strings.Count
-- SX: Lib3
namespace Go.SX
open Go.RowKit Go.Proofs Go.Shelf
set_option linter.unusedVariables false
set_option linter.unusedSimpArgs false

/-- how often x stands ahead of y -/
def cnt2 (x y : Int) : List Int → Int
  | a :: b :: l => bif a == x && b == y then cnt2 x y (b :: l) + 1 else cnt2 x y (b :: l)
  | _ => 0
def cnt2B (x y : UInt8) : List UInt8 → Nat
  | a :: b :: l => bif a == x && b == y then cnt2B x y (b :: l) + 1 else cnt2B x y (b :: l)
  | _ => 0
theorem cnt2_map (x y : UInt8) : ∀ l : List UInt8, cnt2 (x.toNat : Int) (y.toNat : Int) (l.map fun b => (b.toNat : Int)) = cnt2B x y l
  | [] => rfl
  | [a] => rfl
  | a :: b :: l => by
    have ih := cnt2_map x y (b :: l)
    have e : ∀ u v : UInt8, ((u.toNat : Int) == (v.toNat : Int)) = (u == v) := fun u v => by
      rw [Bool.eq_iff_iff, beq_iff_eq, beq_iff_eq]
      exact ⟨fun h => UInt8.toNat_inj.1 (by exact_mod_cast h), fun h => by rw [h]⟩
    show (bif ((a.toNat : Int) == (x.toNat : Int)) && ((b.toNat : Int) == (y.toNat : Int)) then _ else _) = ((bif a == x && b == y then cnt2B x y (b :: l) + 1 else cnt2B x y (b :: l) : Nat) : Int)
    rw [e, e, show cnt2 (x.toNat : Int) (y.toNat : Int) ((b.toNat : Int) :: l.map fun b => (b.toNat : Int)) = _ from ih]
    cases (a == x && b == y) <;> simp

theorem count_step {x : UInt8} {l sub : List UInt8} (hs : sub ≠ []) (h : sub.isPrefixOf (x :: l) = false) : Lib.count (x :: l) sub = Lib.count l sub := by
  have hi : Lib.index (x :: l) sub = if Lib.index l sub == -1 then -1 else Lib.index l sub + 1 := by
    show (if sub.isPrefixOf (x :: l) then 0 else if Lib.index l sub == -1 then -1 else Lib.index l sub + 1) = _
    rw [h]; rfl
  have hge := Lib.index_ge l sub
  by_cases h1 : Lib.index l sub = -1
  · rw [h1] at hi
    rw [Lib.count_miss h1, Lib.count_miss (by rw [hi]; rfl)]
  · obtain ⟨i, hi2⟩ : ∃ i : Nat, Lib.index l sub = i := ⟨(Lib.index l sub).toNat, by omega⟩
    have hi3 : Lib.index (x :: l) sub = ((i + 1 : Nat) : Int) := by
      rw [hi, hi2]
      have : ((i : Int) == -1) = false := by rw [beq_eq_false_iff_ne]; omega
      rw [this]; simp
    rw [Lib.count_hit hs hi2, Lib.count_hit hs hi3]
    rw [show i + 1 + sub.length = (i + sub.length) + 1 from by omega]
    rfl
theorem count_two {x y : UInt8} (hxy : x ≠ y) : ∀ l : List UInt8, Lib.count l [x, y] = cnt2B x y l
  | [] => by rw [Lib.count_miss (by rfl)]; rfl
  | [a] => by
    rw [count_step (by simp) (by simp [List.isPrefixOf])]
    rw [Lib.count_miss (by rfl)]; rfl
  | a :: b :: l => by
    have ih := count_two hxy (b :: l)
    show _ = bif a == x && b == y then cnt2B x y (b :: l) + 1 else cnt2B x y (b :: l)
    cases hb : (a == x && b == y) with
    | false =>
      rw [count_step (by simp) (by
        have : (x == a && (y == b && true)) = false := by
          rw [Bool.and_true]
          rw [Bool.beq_comm (a := x), Bool.beq_comm (a := y)]; exact hb
        simpa [List.isPrefixOf] using this), ih]
      rfl
    | true =>
      simp only [Bool.and_eq_true, beq_iff_eq] at hb
      obtain ⟨rfl, rfl⟩ := hb
      have h0 : Lib.index (a :: b :: l) [a, b] = ((0 : Nat) : Int) := by
        show (if [a, b].isPrefixOf (a :: b :: l) then (0 : Int) else _) = _
        rw [if_pos (by simp [List.isPrefixOf])]; rfl
      rw [Lib.count_hit (by simp) h0]
      rw [count_step (x := b) (l := l) (by simp) (by
        have : (a == b) = false := by rw [beq_eq_false_iff_ne]; exact hxy
        simp [List.isPrefixOf, this])] at ih
      show 1 + Lib.count l [a, b] = cnt2B a b (b :: l) + 1
      rw [ih]; omega

theorem cnt2_range (x y : Int) : ∀ l : List Int, 0 ≤ cnt2 x y l ∧ cnt2 x y l ≤ l.length
  | [] => by simp [cnt2]
  | [a] => by simp [cnt2]
  | a :: b :: l => by
    have ih := cnt2_range x y (b :: l)
    show 0 ≤ (bif a == x && b == y then cnt2 x y (b :: l) + 1 else cnt2 x y (b :: l)) ∧ _ ≤ _
    simp only [List.length_cons] at ih ⊢
    cases h : (a == x && b == y) with
    | true =>
      have e : cnt2 x y (a :: b :: l) = cnt2 x y (b :: l) + 1 := by
        show (bif a == x && b == y then cnt2 x y (b :: l) + 1 else cnt2 x y (b :: l)) = _
        rw [h]; rfl
      rw [e]; simp; omega
    | false =>
      have e : cnt2 x y (a :: b :: l) = cnt2 x y (b :: l) := by
        show (bif a == x && b == y then cnt2 x y (b :: l) + 1 else cnt2 x y (b :: l)) = _
        rw [h]; rfl
      rw [e]; simp; omega

abbrev ps_ss : List PK := [.val .str, .val .str]
def countF : (argT ps_ss).D → Option (resT [RK.val (.int .i64)] (refT ps_ss)).D
  | (s, [c], _) => some (cntI s c, ())
  | (s, [x, y], _) => bif Nat.blt (List.length (α := Int) s) 4000000000 && !(x == y) then some (cnt2 x y s, ()) else none
  | _ => none

theorem bytes_one {b : ByteArray} {c : Int} (h : bytesD b = [c]) : ∃ u : UInt8, b = ⟨#[u]⟩ ∧ c = (u.toNat : Int) := by
  obtain ⟨⟨l⟩⟩ := b
  have h' : (l.map fun c => (c.toNat : Int)) = [c] := by simpa [bytesD] using h
  match l, h' with
  | [u], h' => exact ⟨u, rfl, by simpa using h'.symm⟩
theorem bytes_two {b : ByteArray} {x y : Int} (h : bytesD b = [x, y]) : ∃ u v : UInt8, b = ⟨#[u, v]⟩ ∧ x = (u.toNat : Int) ∧ y = (v.toNat : Int) := by
  obtain ⟨⟨l⟩⟩ := b
  have h' : (l.map fun c => (c.toNat : Int)) = [x, y] := by simpa [bytesD] using h
  match l, h' with
  | [u, v], h' =>
    simp at h'
    exact ⟨u, v, rfl, h'.1.symm, h'.2.symm⟩

theorem ok_countS {P : Program} {ρ : Ren} (L : Lays.n138 P ρ) : ConOk P ⟨ρ.f 138, ps_ss, [.val (.int .i64)], countF, 0⟩ := by
  refine con_pure (τs := [.str, .str]) ?_
  rintro im0 w ⟨s, t, z⟩ ⟨r, z'⟩ us hF ⟨u, us', rfl, hu, u2, us'', rfl, hu2, rfl⟩ him hgl
  have hent : ∀ args w, (callFunc (ρ.f 138) args).run P w = .ok (.enter (ρ.f 138) args) w := enters_of L.f138 (by kernel_rfl) rfl
  obtain ⟨cs, ⟨b, rfl, rfl, hb⟩, rfl⟩ := hu
  obtain ⟨cs2, ⟨b2, rfl, ht, hb2⟩, rfl⟩ := hu2
  have hF0 : countF (bytesD b, t, z) = some (r, z') := hF
  match t, ht, hF0 with
  | [c], ht, hF0 =>
    obtain ⟨rfl⟩ : cntI (bytesD b) c = r := congrArg Prod.fst (Option.some.inj hF0)
    obtain ⟨u, rfl, rfl⟩ := bytes_one ht
    refine .inl ⟨hent _ _, (Any.strings_Count_one L b u w).mono ?_⟩
    rintro e w' ⟨rfl, rfl⟩
    refine ⟨_, rfl, Below.refl _ _, ?_⟩
    have hu8 : IntKind.u8.wrap (u.toNat : Int) = (u.toNat : Int) := by
      have := u.toNat_lt
      show (if (false && decide ((u.toNat : Int) % 256 ≥ 128)) = true then (u.toNat : Int) % 256 - 256 else (u.toNat : Int) % 256) = _
      simp; omega
    have e := cnt_eq hu8 b.data.toList
    have hr := cnt_range (bytesD b) (u.toNat : Int)
    have e2 : ((u.toNat : Int)).toNat.toUInt8 = u := by simp
    rw [e2] at e
    show RepV w' im0 (.int .i64) (cntI (bytesD b) (u.toNat : Int)) _
    rw [← e]
    refine rep_i64 (by have := hr.1; show -1 ≤ cntI (bytesD b) _; omega) (Int.le_trans hr.2 ?_)
    rw [bytesD_len]; exact_mod_cast hb
  | [x, y], ht, hF0 =>
    have hF1 : (bif Nat.blt (List.length (α := Int) (bytesD b)) 4000000000 && !(x == y) then some (cnt2 x y (bytesD b), ()) else none) = some (r, z') := hF0
    cases hg : (Nat.blt (List.length (α := Int) (bytesD b)) 4000000000 && !(x == y)) with
    | false => rw [hg] at hF1; cases hF1
    | true =>
      rw [hg] at hF1
      obtain ⟨rfl⟩ : cnt2 x y (bytesD b) = r := congrArg Prod.fst (Option.some.inj hF1)
      simp only [Bool.and_eq_true, Bool.not_eq_true', beq_eq_false_iff_ne, Nat.blt_eq] at hg
      obtain ⟨h1, h2⟩ := hg
      rw [bytesD_len] at h1
      obtain ⟨p, q, rfl, rfl, rfl⟩ := bytes_two ht
      obtain ⟨_, m, hm⟩ := hgl _ L.g1
      refine .inl ⟨hent _ _, (Any.strings_Count L b ⟨#[p, q]⟩ m w (by omega) hm (Nat.le_refl 2)).mono ?_⟩
      rintro e w' ⟨rfl, rfl⟩
      refine ⟨_, rfl, Below.refl _ _, ?_⟩
      have hpq : p ≠ q := fun e => h2 (by rw [e])
      have e1 : ((Lib.countB b ⟨#[p, q]⟩ : Nat) : Int) = cnt2 (p.toNat : Int) (q.toNat : Int) (bytesD b) := by
        show ((Lib.count b.data.toList [p, q] : Nat) : Int) = _
        rw [count_two hpq, ← cnt2_map]
        rfl
      have hr := cnt2_range (p.toNat : Int) (q.toNat : Int) (bytesD b)
      rw [e1]
      refine rep_i64 (by have := hr.1; omega) (Int.le_trans hr.2 ?_)
      rw [bytesD_len]; exact_mod_cast hb
end Go.SX

-- SX: Pure
namespace Go.SX
set_option linter.unusedVariables false
set_option linter.unusedSimpArgs false

@[simp] theorem br_t {R : Type} {x y : Option R} : br true x y = x := rfl
@[simp] theorem br_f {R : Type} {x y : Option R} : br false x y = y := rfl
@[simp] theorem chk_t {R : Type} {x : Option R} : chk true x = x := rfl
@[simp] theorem obnd_s {A R : Type} {a : A} {f : A → Option R} : obnd (some a) f = f a := rfl
@[simp] theorem lcase_r {ρ β R : Type} {a : ρ} {f : ρ → Option R} {g : β → Option R} : lcase (.ret a) f g = f a := rfl
@[simp] theorem lcase_o {ρ β R : Type} {a : β} {f : ρ → Option R} {g : β → Option R} : lcase (.out a) f g = g a := rfl
@[simp] theorem bnot_t : bnot true = false := rfl
@[simp] theorem bnot_f : bnot false = true := rfl
theorem br_same {R : Type} {b : Bool} {x : Option R} : br b x x = x := by cases b <;> rfl

theorem ilt_t {a b : Int} (h : a < b) : ilt a b = true := by simp [ilt, h]
theorem ilt_f {a b : Int} (h : ¬ a < b) : ilt a b = false := by simp [ilt, h]
theorem ile_t {a b : Int} (h : a ≤ b) : ile a b = true := by simp [ile, h]
theorem ile_f {a b : Int} (h : ¬ a ≤ b) : ile a b = false := by simp [ile, h]
theorem ieq_t {a b : Int} (h : a = b) : ieq a b = true := by simp [ieq, h]
theorem ieq_f {a b : Int} (h : a ≠ b) : ieq a b = false := by simp [ieq, h]
theorem inb_t {a b : Int} (h0 : 0 ≤ a) (h : a < b) : inb a b = true := by simp [inb, h0, h]
theorem inp_t {a b n : Int} (h0 : 0 ≤ a) (h : a ≤ b) (h2 : b ≤ n) : inp a b n = true := by simp [inp, h0, h, h2]
theorem fits_t {α β : Type} {l : List α} {m : List β} (h : l.length + m.length < 1099511627776) : fits l m = true := by simp [fits, appLim, h]

theorem i64_wrap {n : Int} (h : -9223372036854775808 ≤ n) (h2 : n ≤ 9223372036854775807) : IntKind.i64.wrap n = n := by
  unfold IntKind.wrap
  show (if (true && decide (n % 18446744073709551616 ≥ 9223372036854775808)) = true then n % 18446744073709551616 - 18446744073709551616 else n % 18446744073709551616) = n
  simp only [Bool.true_and, decide_eq_true_eq]
  by_cases h3 : n % 18446744073709551616 ≥ 9223372036854775808
  · rw [if_pos h3]; omega
  · rw [if_neg h3]; omega
theorem iadd64 {a b : Int} (h : -9223372036854775808 ≤ a + b) (h2 : a + b ≤ 9223372036854775807) : iadd .i64 a b = a + b := i64_wrap h h2
theorem isub64 {a b : Int} (h : -9223372036854775808 ≤ a - b) (h2 : a - b ≤ 9223372036854775807) : isub .i64 a b = a - b := i64_wrap h h2
theorem imul64 {a b : Int} (h : -9223372036854775808 ≤ a * b) (h2 : a * b ≤ 9223372036854775807) : imul .i64 a b = a * b := i64_wrap h h2

theorem tn_nat (i : Nat) : Int.ofNat (tn (i : Int)) = (i : Int) := rfl
theorem tn_nat' (i : Nat) : tn (i : Int) = i := rfl

/-- at an element -/
theorem at_cons (τ : Ty) {l : List τ.D} {i : Nat} {x : τ.D} {m : List τ.D} (h : l.drop i = x :: m) (hl : l.length < 4611686018427387904) :
    ilt (i : Int) (len l) = true ∧ inb (i : Int) (len l) = true ∧ rd τ l (i : Int) = x ∧ iadd .i64 (i : Int) 1 = ((i + 1 : Nat) : Int) ∧ l.drop (i + 1) = m := by
  have hlt : i < l.length := by
    rcases Nat.lt_or_ge i l.length with h1 | h1
    · exact h1
    · rw [List.drop_eq_nil_of_le h1] at h; cases h
  have hg : l[i]? = some x := by
    have := congrArg (·[0]?) h
    simpa [List.getElem?_drop] using this
  refine ⟨ilt_t (by unfold len; omega), inb_t (by omega) (by unfold len; omega), ?_, ?_, ?_⟩
  · unfold rd
    simp [List.getD_eq_getElem?_getD, hg]
  · rw [iadd64 (by omega) (by omega)]; rfl
  · rw [← List.drop_drop, h]; rfl
theorem at_nil {α : Type} {l : List α} {i : Nat} (h : l.drop i = []) : ilt (i : Int) (len l) = false := by
  have : l.length ≤ i := List.drop_eq_nil_iff.1 h
  exact ilt_f (by unfold len; omega)
theorem at_nil_eq {α : Type} {l : List α} {i : Nat} (h : l.drop i = []) : l.length ≤ i := List.drop_eq_nil_iff.1 h

theorem len_upd {α : Type} (l : List α) (i : Int) (x : α) : (upd l i x).length = l.length := by simp [upd]

end Go.SX

-- SX: Split
namespace Go.SX
set_option linter.unusedVariables false
set_option linter.unusedSimpArgs false

def consH (b : Int) : List (List Int) → List (List Int)
  | h :: t => (b :: h) :: t
  | [] => [[b]]
/-- the parts between the bytes c -/
def splitC (c : Int) : List Int → List (List Int)
  | [] => [[]]
  | b :: l => bif b == c then [] :: splitC c l else consH b (splitC c l)

theorem cnt_cons (b : Int) (l : List Int) (c : Int) : cntI (b :: l) c = bif b == c then cntI l c + 1 else cntI l c := rfl
theorem ix_cons (b : Int) (l : List Int) (c : Int) : ixI (b :: l) c = bif b == c then 0 else bif ixI l c == -1 then -1 else ixI l c + 1 := rfl
theorem split_cons (b : Int) (l : List Int) (c : Int) : splitC c (b :: l) = bif b == c then [] :: splitC c l else consH b (splitC c l) := rfl

theorem ix_none {c : Int} : ∀ (l : List Int), cntI l c = 0 → ixI l c = -1 ∧ splitC c l = [l]
  | [], _ => ⟨rfl, rfl⟩
  | b :: l, h => by
    unfold cntI at h
    unfold ixI splitC
    have hr := cnt_range l c
    cases hb : b == c with
    | true => rw [hb] at h; simp at h; omega
    | false =>
      rw [hb] at h
      obtain ⟨h1, h2⟩ := ix_none l h
      rw [h1, h2]
      exact ⟨rfl, rfl⟩
theorem ix_some {c : Int} : ∀ (l : List Int), 0 < cntI l c → ∃ m : Nat, ixI l c = m ∧ m < l.length ∧ splitC c l = l.take m :: splitC c (l.drop (m + 1)) ∧ cntI (l.drop (m + 1)) c = cntI l c - 1
  | [], h => by simp [cntI] at h
  | b :: l, h => by
    rw [cnt_cons] at h ⊢
    rw [ix_cons, split_cons]
    cases hb : b == c with
    | true => exact ⟨0, rfl, by simp, rfl, by simp⟩
    | false =>
      rw [hb] at h
      obtain ⟨m, h1, h2, h3, h4⟩ := ix_some l h
      refine ⟨m + 1, ?_, by simp; omega, ?_, by simpa using h4⟩
      · rw [h1]
        have : ((m : Int) == -1) = false := by rw [beq_eq_false_iff_ne]; omega
        rw [this]; rfl
      · rw [h3]; rfl
theorem splitC_len {c : Int} : ∀ (l : List Int), ∀ p ∈ splitC c l, p.length ≤ l.length
  | [], p, hp => by simp [splitC] at hp; subst hp; simp
  | b :: l, p, hp => by
    have ih := splitC_len (c := c) l
    unfold splitC at hp
    cases hb : b == c with
    | true =>
      rw [hb] at hp
      rcases List.mem_cons.1 (show p ∈ [] :: splitC c l from hp) with rfl | hp
      · simp
      · have := ih p hp; simp; omega
    | false =>
      rw [hb] at hp
      have hp' : p ∈ consH b (splitC c l) := hp
      cases hs : splitC c l with
      | nil => rw [hs] at hp'; simp [consH] at hp'; subst hp'; simp
      | cons h t =>
        rw [hs] at hp' ih
        rcases List.mem_cons.1 (show p ∈ (b :: h) :: t from hp') with rfl | hp'
        · have := ih h List.mem_cons_self; simp; omega
        · have := ih p (List.mem_cons_of_mem _ hp'); simp; omega
theorem split_not {c : Int} : ∀ (w : List Int), (∀ x ∈ w, x ≠ c) → splitC c w = [w]
  | [], _ => rfl
  | b :: w, h => by
    have hb : (b == c) = false := by rw [beq_eq_false_iff_ne]; exact h b List.mem_cons_self
    rw [split_cons, hb, split_not w fun x hx => h x (List.mem_cons_of_mem _ hx)]
    rfl
theorem split_at {c : Int} (d : List Int) : ∀ (w : List Int), (∀ x ∈ w, x ≠ c) → splitC c (w ++ c :: d) = w :: splitC c d
  | [], _ => by simp [split_cons]
  | b :: w, h => by
    have hb : (b == c) = false := by rw [beq_eq_false_iff_ne]; exact h b List.mem_cons_self
    rw [List.cons_append, split_cons, hb, split_at d w fun x hx => h x (List.mem_cons_of_mem _ hx)]
    rfl
theorem part0 (l : List Int) (m : Nat) : part l 0 (m : Int) = l.take m := by simp [part]
theorem partE (l : List Int) (m : Nat) : part l (m : Int) (len l) = l.drop m := by simp [part, len]
end Go.SX
