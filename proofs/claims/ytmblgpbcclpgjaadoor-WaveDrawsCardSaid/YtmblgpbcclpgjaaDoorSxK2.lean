/- The typed evaluator of the model's code and its soundness, part 2: what is used to prove the law; it has no condition. -/
import Derived.Test.YtmblgpbcclpgjaaDoorSxK1
import Derived.Laws.BytesString
import Derived.Laws.Slices
import Derived.Lib.ConvBytes
import Derived.Deep.Upon
-- SX: Sim10
namespace Go.SX
open Go.RowKit
set_option linter.unusedVariables false
set_option linter.unusedSimpArgs false

/-- no claim that a cell is not to be written -/
def imT : Nat → Nat → Prop := fun _ _ => True

section
variable {F : Frm} {G G' : Gh} {s s' s1 : St} {a : Act} {w w' : World} {T : Tab} {cons : List Con}

theorem RepV.any {im : Nat → Nat → Prop} {τ : Ty} {x : τ.D} {u : Value} (h : RepV w im τ x u) : RepV w imT τ x u := RepV.mono (fun _ _ _ _ h => h) (fun _ _ _ => trivial) h
theorem Rep.any {im : Nat → Nat → Prop} {τ : Ty} {x : τ.D} {cs : List Value} (h : Rep w im τ x cs) : Rep w imT τ x cs := Rep.mono (fun _ _ _ _ h => h) (fun _ _ _ => trivial) h

/-- a slice that is read now: its elements' own claims stand -/
def Sees (w : World) (im : Nat → Nat → Prop) (τ : Ty) (l : List τ.D) (u : Value) : Prop :=
  ∃ c cap, u = .slice c l.length cap ∧ l.length ≤ cap ∧ cap ≤ maxLen ∧ (l = [] ∨ ∃ b o, c = some ⟨b, o, none⟩ ∧ ∃ css, All2 (Rep w im τ) l css ∧ Lies w imT b o css.flatten)

theorem Sees.rep {im : Nat → Nat → Prop} {τ : Ty} {l : List τ.D} {u : Value} (h : Sees w im τ l u) : RepV w imT (.slice τ) l u := by
  obtain ⟨c, cap, rfl, hle, hmx, hl⟩ := h
  refine ⟨[_], ⟨c, cap, rfl, hle, hmx, hl.imp id ?_⟩, rfl⟩
  rintro ⟨b, o, rfl, css, h1, h2⟩
  exact ⟨b, o, rfl, css, h1.mono fun _ _ h => h.any, h2⟩
theorem Sees.of_rep {im : Nat → Nat → Prop} {τ : Ty} {l : List τ.D} {u : Value} (h : RepV w im (.slice τ) l u) : Sees w im τ l u := by
  obtain ⟨cs, ⟨c, cap, rfl, hle, hmx, hl⟩, hv⟩ := h
  refine ⟨c, cap, hv, hle, hmx, hl.imp id ?_⟩
  rintro ⟨b, o, rfl, css, h1, h2⟩
  exact ⟨b, o, rfl, css, h1, h2.mono (fun _ _ _ _ h => h) fun _ _ _ => trivial⟩
theorem Sees.nil (im : Nat → Nat → Prop) (τ : Ty) : Sees w im τ [] (.slice none 0 0) := ⟨none, 0, rfl, Nat.le_refl _, Nat.zero_le _, .inl rfl⟩
theorem OwnR.sees {base : Nat} {L : Nat × Nat} {τ : Ty} {l : List τ.D} {wf ap : Bool} {v : Value} (h : OwnR w base G.im G.ow L τ l wf ap v) : Sees w G.im τ l v := by
  obtain ⟨c, cap, e, hle, hmx, hl⟩ := h.lies
  refine ⟨c, cap, e, hle, hmx, hl.imp id ?_⟩
  rintro ⟨g, css, rfl, _, h2, _, h4⟩
  exact ⟨g, 0, rfl, css, h2, fun j u hj => ⟨h4 j u hj, trivial⟩⟩

theorem aslist_see (h : Sim F G s a w) {x : Operand} {v : V} {t : Nat} (o : Opd F G s a w x v t) {τ : Ty} {k : List τ.D → Cmd} {r : V} (hp : Path (aslist τ v x k) s r s') : ∃ y, Sees w G.im τ y (a.eval x) ∧ Path (k y) s r s' := by
  have hrel := o.rel
  unfold aslist at hp
  split at hp
  · split at hp
    · rename_i hz
      obtain ⟨rfl, rfl⟩ := castL_some hz
      exact ⟨_, Sees.of_rep hrel, hp⟩
    · exact hp.elim
  · refine ⟨_, ?_, hp⟩
    rw [show a.eval x = _ from hrel]
    exact Sees.nil _ _
  · split at hp
    · rename_i hz
      obtain ⟨rfl, rfl⟩ := castL_some hz
      exact ⟨_, hrel.2.sees, hp⟩
    · exact hp.elim
  · obtain ⟨τ', l, wf, ap, hs, hp1⟩ := slotOf_path hp
    clear hp
    split at hp1
    · rename_i hz
      obtain ⟨rfl, rfl⟩ := castL_some hz
      obtain ⟨e1, e2⟩ := al_content h hs
      rw [e1] at e2
      refine ⟨_, ?_, hp1⟩
      rw [show a.eval x = _ from hrel]
      exact e2.sees
    · exact hp1.elim
  · exact hp.elim
theorem aslist_path (h : Sim F G s a w) {x : Operand} {v : V} {t : Nat} (o : Opd F G s a w x v t) {τ : Ty} {k : List τ.D → Cmd} {r : V} (hp : Path (aslist τ v x k) s r s') : ∃ y, RepV w imT (.slice τ) y (a.eval x) ∧ Path (k y) s r s' := by
  obtain ⟨y, h1, h2⟩ := aslist_see h o hp
  exact ⟨y, h1.rep, h2⟩

theorem part_take {α : Type} (l : List α) (lo hi : Int) (h0 : 0 ≤ lo) (h1 : lo ≤ hi) (h2 : hi ≤ (l.length : Int)) : (part l lo hi).length = (hi - lo).toNat := by
  simp only [part, List.length_drop, List.length_take]; omega

theorem flatten_take {css : List (List Value)} {n : Nat} (h : ∀ c ∈ css, c.length = n) : ∀ k, (css.take k).flatten = css.flatten.take (k * n) := by
  induction css with
  | nil => simp
  | cons c r ih =>
    intro k
    have hc := h c List.mem_cons_self
    cases k with
    | zero => simp
    | succ k =>
      rw [List.take_succ_cons, List.flatten_cons, List.flatten_cons, ih (fun d hd => h d (List.mem_cons_of_mem _ hd)), show (k + 1) * n = c.length + k * n by rw [hc, Nat.add_mul]; omega, List.take_length_add_append]
theorem flatten_drop {css : List (List Value)} {n : Nat} (h : ∀ c ∈ css, c.length = n) : ∀ k, (css.drop k).flatten = css.flatten.drop (k * n) := by
  induction css with
  | nil => simp
  | cons c r ih =>
    intro k
    have hc := h c List.mem_cons_self
    cases k with
    | zero => simp
    | succ k =>
      rw [List.drop_succ_cons, List.flatten_cons, ih (fun d hd => h d (List.mem_cons_of_mem _ hd)), show (k + 1) * n = c.length + k * n by rw [hc, Nat.add_mul]; omega, ← List.drop_drop, List.drop_left]

/-- a part of what lies somewhere -/
theorem part_lies {im : Nat → Nat → Prop} {τ : Ty} {l : List τ.D} {css : List (List Value)} {b ofs : Nat} (hall : All2 (Rep w im τ) l css) (hl : Lies w im b ofs css.flatten) (lo hi : Int) :
    All2 (Rep w im τ) (part l lo hi) ((css.take hi.toNat).drop lo.toNat) ∧ Lies w im b (ofs + lo.toNat * τ.size) ((css.take hi.toNat).drop lo.toNat).flatten := by
  refine ⟨(hall.take _).drop _, fun j u hj => ?_⟩
  rw [flatten_drop (fun c hc => hall.lens c (List.mem_of_mem_take hc)), flatten_take hall.lens, List.getElem?_drop, List.getElem?_take] at hj
  split at hj
  · rw [Nat.add_assoc]; exact hl _ _ hj
  · cases hj

theorem part_lies' {im im' : Nat → Nat → Prop} {τ : Ty} {l : List τ.D} {css : List (List Value)} {b ofs : Nat} (hall : All2 (Rep w im τ) l css) (hl : Lies w im' b ofs css.flatten) (lo hi : Int) :
    All2 (Rep w im τ) (part l lo hi) ((css.take hi.toNat).drop lo.toNat) ∧ Lies w im' b (ofs + lo.toNat * τ.size) ((css.take hi.toNat).drop lo.toNat).flatten := by
  refine ⟨(hall.take _).drop _, fun j u hj => ?_⟩
  rw [flatten_drop (fun c hc => hall.lens c (List.mem_of_mem_take hc)), flatten_take hall.lens, List.getElem?_drop, List.getElem?_take] at hj
  split at hj
  · rw [Nat.add_assoc]; exact hl _ _ hj
  · cases hj

theorem viewL_see (h : Sim F G s a w) {x : Operand} {v : V} {t : Nat} (o : Opd F G s a w x v t) {τ : Ty} {k : List τ.D → Cmd} {r : V} (hp : Path (viewL τ v x k) s r s') : ∃ y, Sees w G.im τ y (a.eval x) ∧ Path (k y) s r s' := by
  unfold viewL at hp
  split at hp
  · rename_i o' τo p lo hi
    obtain ⟨b, off, n, t', i, cap, hsite, hok, hty, h0, h1, h2, hi', hv, hcap, hmx⟩ : ∃ b off n t i cap, G.site o' = some (b, off, τo) ∧ okP p τo ∧ tyP p τo = some (.arr n t) ∧ 0 ≤ lo ∧ lo ≤ hi ∧ hi ≤ (n : Int) ∧ (lo < hi → i = off + offP p τo + lo.toNat * t.size) ∧ a.eval x = .slice (some ⟨b, i, none⟩) (hi - lo).toNat cap ∧ (hi - lo).toNat ≤ cap ∧ cap ≤ maxLen := o.rel
    have fin : ∀ (y : τo.D) (wr : Bool), ObR F G w b off τo y wr → Path (getP p τo y (fun σ z => match σ, z with
        | .arr m τ', z => match castL τ z with | some l => k (part l lo hi) | Option.none => .fail
        | _, _ => .fail) .fail) s r s' → ∃ y, Sees w G.im τ y (a.eval x) ∧ Path (k y) s r s' := by
      intro y wr ho hp
      obtain ⟨cs, k1, k2⟩ := ho.range
      obtain ⟨σ, z, m1, m2, m3⟩ := getP_rep (w := w) (im := G.im) p τo y hp
      rw [hty] at m1
      cases m1
      simp only at m2
      split at m2
      · rename_i z' hz
        obtain ⟨rfl, rfl⟩ := castL_some hz
        obtain ⟨hlen, css, ecs, hall⟩ := m3 cs hok k1
        have hr := rangeAt_part k2 (offP p τo) (Ty.arr n t').size
        rw [ecs] at hr
        have hlies : Lies w imT b (off + offP p τo) css.flatten := fun j u hj => ⟨hr j u hj, trivial⟩
        obtain ⟨q1, q2⟩ := part_lies' hall hlies lo hi
        refine ⟨_, ?_, m2⟩
        rw [hv]
        have hpl := part_take z lo hi h0 h1 (by rw [hlen]; exact h2)
        refine ⟨some ⟨b, i, none⟩, cap, by rw [hpl], by rw [hpl]; exact hcap, hmx, ?_⟩
        by_cases hlt : lo < hi
        · exact .inr ⟨b, i, rfl, _, q1, by rw [hi' hlt]; exact q2⟩
        · exact .inl (List.eq_nil_of_length_eq_zero (by rw [hpl]; omega))
      · exact m2.elim
    simp only [Path] at hp
    split at hp
    · rename_i τ1 y e
      obtain ⟨b', off', q1, q2⟩ := h.vars o' τ1 y e
      rw [hsite] at q1; cases q1
      split at hp
      · rename_i y' hy
        obtain ⟨e1, e2⟩ := cast_some hy
        cases e1
        simp only at e2; subst e2
        exact fin _ _ q2 hp
      · exact hp.elim
    · exact hp.elim
  · exact aslist_see h o hp

theorem viewL_path (h : Sim F G s a w) {x : Operand} {v : V} {t : Nat} (o : Opd F G s a w x v t) {τ : Ty} {k : List τ.D → Cmd} {r : V} (hp : Path (viewL τ v x k) s r s') : ∃ y, RepV w imT (.slice τ) y (a.eval x) ∧ Path (k y) s r s' := by
  obtain ⟨y, h1, h2⟩ := viewL_see h o hp
  exact ⟨y, h1.rep, h2⟩

theorem len_slice {im : Nat → Nat → Prop} {τ : Ty} {l : List τ.D} {u : Value} (h : RepV w im (.slice τ) l u) : ∃ c cap, u = .slice c l.length cap ∧ l.length ≤ cap ∧ cap ≤ maxLen ∧ (l = [] ∨ ∃ b o, c = some ⟨b, o, none⟩ ∧ ∃ css, All2 (Rep w im τ) l css ∧ Lies w im b o css.flatten) := by
  obtain ⟨cs, ⟨c, cap, rfl, hle, hmx, hl⟩, hv⟩ := h
  exact ⟨c, cap, hv, hle, hmx, hl⟩

theorem exec_len {o : Oper} {x : Operand} {t : Nat} {u : Value} (ho : o.op = .call { callee := .builtin .len, args := #[x], argTypes := #[t] }) (h : (Builtin.len_ #[t] o.type #[a.eval x]).run F.P w = .ok u w) : (execOp a.eval o).run F.P w = .ok (.value u) w := by
  simp [execOp, ho, resolve, invoke, builtin, h]

theorem wrap_len {n : Nat} (h : n ≤ maxLen) : IntKind.i64.wrap (n : Int) = n := by
  rw [wrap_range]; unfold maxLen at h
  have h1 : IntKind.i64.min = -9223372036854775808 := by decide
  have h2 : IntKind.i64.max = 9223372036854775807 := by decide
  rw [h1, h2]; omega

theorem len_good (hT : TabOk F.P T) (h : Sim F G s a w) {o : Oper} {t : Nat} {x : Operand} (ho : o.op = .call { callee := .builtin .len, args := #[x], argTypes := #[t] }) {v : V} (hp : Path (opLen T t x) s v s') : Good F o a w s' v := by
  unfold opLen at hp
  split at hp
  · rename_i τ hτ
    obtain ⟨vx, tx, hx, hp1⟩ := vget_path h hp
    clear hp
    obtain ⟨l, hl, rfl, rfl⟩ := viewL_path h hx hp1
    obtain ⟨c, cap, e, hle, hmx, _⟩ := len_slice hl
    obtain ⟨el, hu, _⟩ := und_slice hT hτ
    refine good_dat h (u := .int .i64 (l.length : Int)) (exec_len ho ?_) (mk_int _ _ (wrap_len (by omega)))
    simp [Builtin.len_, run_underlying hu, e, goInt]
  · rename_i hτ
    obtain ⟨vx, tx, hx, hp1⟩ := vget_path h hp
    clear hp
    split at hp1
    · rename_i x'
      obtain ⟨rfl, rfl⟩ := hp1
      obtain ⟨b, e, rfl, hmx⟩ := dat_str hx.rel
      have hu : F.P.underlying t = some .string := (hT t _ hτ).und
      refine good_dat h (u := .int .i64 (b.size : Int)) (exec_len ho ?_) ?_
      · simp [Builtin.len_, run_underlying hu, e, goInt]
      · have : len (bytesD b) = (b.size : Int) := by simp [len, bytesD_len]
        rw [this]; exact mk_int _ _ (wrap_len hmx)
    · exact hp1.elim
  · rename_i m τ hτ
    split at hp
    · rename_i hb
      obtain ⟨rfl, rfl⟩ := hp
      have hm := Nat.le_of_ble_eq_true hb
      obtain ⟨e, hu, _⟩ := (hT t _ hτ).und
      refine good_dat h (u := .int .i64 (m : Int)) (exec_len ho ?_) (mk_int _ _ (wrap_len (by unfold maxLen; omega)))
      simp [Builtin.len_, run_underlying hu, goInt]
    · exact hp.elim
  · exact hp.elim

theorem bytesD_get (b : ByteArray) (n : Int) (h0 : 0 ≤ n) (h1 : n < (b.size : Int)) : ∃ c : UInt8, b[n.toNat]? = some c ∧ rd (.int .u8) (bytesD b) n = (c.toNat : Int) := by
  have hlt : n.toNat < b.size := by omega
  refine ⟨b[n.toNat], by simp [hlt], ?_⟩
  have hl2 : n.toNat < b.data.toList.length := hlt
  simp only [rd, bytesD, List.getD_eq_getElem?_getD, List.getElem?_map]
  rw [List.getElem?_eq_getElem hl2]
  rfl

theorem index_good (hT : TabOk F.P T) (h : Sim F G s a w) {o : Oper} {t : Nat} {x ix : Operand} (ho : o.op = .index t x ix) {v : V} (hp : Path (opIndex T t x ix) s v s') : Good F o a w s' v := by
  unfold opIndex at hp
  obtain ⟨vx, tx, hx, hp1⟩ := vget_path h hp
  clear hp
  obtain ⟨vi, ti, hi, hp2⟩ := vget_path h hp1
  clear hp1
  obtain ⟨k, n, e, hp3⟩ := asI_path hp2
  clear hp2
  subst e
  obtain ⟨ei, wi⟩ := dat_int hi.rel
  split at hp3
  · rename_i hτ
    split at hp3
    · rename_i sx
      obtain ⟨hc, rfl, rfl⟩ := hp3
      obtain ⟨h0, h1⟩ := inb_spec hc
      obtain ⟨b, e, rfl, hmx⟩ := dat_str hx.rel
      have hu : F.P.underlying t = some .string := (hT t _ hτ).und
      rw [show len (bytesD b) = (b.size : Int) by simp [len, bytesD_len]] at h1
      obtain ⟨c, hc1, hc2⟩ := bytesD_get b n h0 h1
      rw [hc2]
      refine good_dat h (u := .int .u8 (c.toNat : Int)) ?_ (mk_int _ _ ?_)
      · simp [execOp, ho, Instr.index, e, ei, asIntOf, run_underlying hu, h0, hc1]
      · rw [wrap_range]
        have := UInt8.toNat_lt c
        have h1 : IntKind.u8.min = 0 := by decide
        have h2 : IntKind.u8.max = 255 := by decide
        rw [h1, h2]; omega
    · exact hp3.elim
  · rename_i m τ hτ
    split at hp3
    · rename_i τ' l
      split at hp3
      · rename_i l' hl'
        obtain ⟨e1, e2⟩ := cast_some hl'
        subst e1; simp only at e2; subst e2
        obtain ⟨hc, rfl, rfl⟩ := hp3
        obtain ⟨h0, h1⟩ := inb_spec hc
        obtain ⟨cs, ⟨hln, css, rfl, hall⟩, hv⟩ := hx.rel
        obtain ⟨el, hu, he⟩ := (hT t _ hτ).und
        have hil : n.toNat < List.length (α := τ.D) l := by rw [hln]; omega
        have hel := rd_rep hall hil
        have hcl : css.length = m := by rw [← hall.length, hln]
        have hfl := flatten_len hall.lens
        have hpart := run_part (w := w) (hT _ _ he) css.flatten (n.toNat * τ.size) (by rw [hfl, hcl, ← Nat.succ_mul]; exact Nat.mul_le_mul_right _ (by omega))
        rw [rd_nat]
        have hsz := run_sizeOf' (hT _ _ he) w
        have ev : a.eval x = .agg css.flatten.toArray := hv
        have hcond : 0 ≤ n ∧ n < (m : Int) := ⟨h0, h1⟩
        refine good_dat h (u := valOf τ ((css.flatten.drop (n.toNat * τ.size)).take τ.size)) ?_ (V_of_rep hel)
        simp [execOp, ho, Instr.index, ev, ei, asIntOf, run_underlying hu, hcond, hsz, hpart]
      · exact hp3.elim
    · exact hp3.elim
  · exact hp3.elim
end
end Go.SX

-- SX: Sim11
namespace Go.SX
open Go.RowKit
set_option linter.unusedVariables false
set_option linter.unusedSimpArgs false

section
variable {F : Frm} {G G' : Gh} {s s' s1 : St} {a : Act} {w w' : World} {T : Tab} {cons : List Con}

/-- an optional bound -/
theorem optI_path (h : Sim F G s a w) {x : Option Operand} {z : Int} {k : Int → Cmd} {v : V} (hp : Path (optI x z k) s v s') : ∃ n, Path (k n) s v s' ∧ ((x = none ∧ n = z) ∨ ∃ y q, x = some y ∧ a.eval y = .int q n) := by
  unfold optI at hp
  split at hp
  · rename_i y
    obtain ⟨vx, tx, hx, hp1⟩ := vget_path h hp
    clear hp
    obtain ⟨q, n, e, hp2⟩ := asI_path hp1
    subst e
    exact ⟨n, hp2, .inr ⟨y, q, rfl, (dat_int hx.rel).1⟩⟩
  · exact ⟨z, hp, .inl ⟨rfl, rfl⟩⟩

theorem run_bounds {P : Program} {isSlice : Bool} {len cap : Nat} {lo hi mx : Option Operand} {a : Act} {l n m : Int}
    (hl : (lo = none ∧ l = 0) ∨ ∃ y q, lo = some y ∧ a.eval y = .int q l) (hh : (hi = none ∧ n = len ∧ mx = none) ∨ ∃ y q, hi = some y ∧ a.eval y = .int q n)
    (hm : (mx = none ∧ m = cap) ∨ ∃ y q, mx = some y ∧ a.eval y = .int q m) (h0 : 0 ≤ l) (h1 : l ≤ n) (h2 : n ≤ m) (h3 : m ≤ (cap : Int)) :
    (Instr.sliceBounds isSlice len cap (lo.map a.eval) (hi.map a.eval) (mx.map a.eval)).run P w = .ok (l.toNat, n.toNat, m.toNat) w := by
  have e1 : ∀ code, ∀ q, (Instr.sliceBound (.int q m) cap code).run P w = .ok m.toNat w := fun code q => run_sliceBound w q m cap code (by omega) h3
  have e2 : ∀ code, ∀ q, (Instr.sliceBound (.int q n) m.toNat code).run P w = .ok n.toNat w := fun code q => run_sliceBound w q n m.toNat code (by omega) (by omega)
  have e2' : ∀ code, ∀ q, n ≤ (cap : Int) → (Instr.sliceBound (.int q n) cap code).run P w = .ok n.toNat w := fun code q hc => run_sliceBound w q n cap code (by omega) hc
  have e3 : ∀ code, ∀ q, (Instr.sliceBound (.int q l) n.toNat code).run P w = .ok l.toNat w := fun code q => run_sliceBound w q l n.toNat code (by omega) (by omega)
  have hnc : n ≤ (cap : Int) := by omega
  rcases hm with ⟨rfl, rfl⟩ | ⟨ym, qm, rfl, em⟩
  · rcases hh with ⟨rfl, rfl, _⟩ | ⟨yh, qh, rfl, eh⟩
    · rcases hl with ⟨rfl, rfl⟩ | ⟨yl, ql, rfl, el⟩
      · simp [Instr.sliceBounds]
      · have := e3 .sliceB ql
        simp [Instr.sliceBounds, el] at this ⊢
        simp [this]
    · rcases hl with ⟨rfl, rfl⟩ | ⟨yl, ql, rfl, el⟩
      · cases isSlice <;> simp [Instr.sliceBounds, eh, e2' _ qh hnc]
      · cases isSlice <;> simp [Instr.sliceBounds, eh, el, e2' _ qh hnc, e3 _ ql]
  · rcases hh with ⟨_, _, hx⟩ | ⟨yh, qh, rfl, eh⟩
    · cases hx
    · rcases hl with ⟨rfl, rfl⟩ | ⟨yl, ql, rfl, el⟩
      · cases isSlice <;> simp [Instr.sliceBounds, eh, em, e1 _ qm, e2 _ qh]
      · cases isSlice <;> simp [Instr.sliceBounds, eh, em, el, e1 _ qm, e2 _ qh, e3 _ ql]

theorem bytesD_part (b : ByteArray) (lo hi : Int) (h0 : 0 ≤ lo) (h1 : lo ≤ hi) (h2 : hi ≤ (b.size : Int)) : bytesD (b.extract lo.toNat hi.toNat) = part (bytesD b) lo hi := by
  simp only [bytesD, part, ← List.map_take, ← List.map_drop, ByteArray.data_extract, Array.toList_extract, List.extract_eq_take_drop, List.drop_take]

theorem slice_good (hT : TabOk F.P T) (h : Sim F G s a w) {o : Oper} {t : Nat} {x : Operand} {lo hi mx : Option Operand} (ho : o.op = .slice t x lo hi mx) {v : V} (hp : Path (opSlice T t x lo hi mx) s v s') : Good F o a w s' v := by
  unfold opSlice at hp
  obtain ⟨vx, tx, hx, hp1⟩ := vget_path h hp
  clear hp
  have hrel := hx.rel
  split at hp1
  · rename_i hτ
    split at hp1
    · rename_i sx
      obtain ⟨b, e, rfl, hmx⟩ := dat_str hrel
      obtain ⟨l, hp2, hl⟩ := optI_path h hp1
      clear hp1
      obtain ⟨n, hp3, hn⟩ := optI_path h hp2
      clear hp2
      obtain ⟨hc, rfl, rfl⟩ := hp3
      obtain ⟨h0, h1, h2⟩ := inp_spec hc
      have hlen : len (bytesD b) = (b.size : Int) := by simp [len, bytesD_len]
      rw [hlen] at h2 hn
      have hu : F.P.underlying t = some .string := (hT t _ hτ).und
      have hb := run_bounds (w := w) (P := F.P) (isSlice := false) (len := b.size) (cap := b.size) (mx := none) (m := b.size) hl (hn.imp (fun h => ⟨h.1, h.2, rfl⟩) id) (.inl ⟨rfl, rfl⟩) h0 h1 h2 (Int.le_refl _)
      refine good_dat h (u := .string (b.extract l.toNat n.toNat)) ?_ ?_
      · simp only [Option.map_none] at hb
        simp [execOp, ho, Instr.sliceAt, run_underlying hu, Instr.slice, e, hb]
      · rw [← bytesD_part b l n h0 h1 h2]
        refine mk_str _ ?_
        simp only [ByteArray.size_extract]; omega
    · exact hp1.elim
  · rename_i τ hτ
    split at hp1
    · exact hp1.elim
    rename_i hform
    obtain ⟨l, G1, s1, hk, hr, hp2⟩ := keepD_path h hx hp1
    clear hp1
    obtain ⟨lo', hp3, hlo⟩ := optI_path hk.sim hp2
    clear hp2
    obtain ⟨hi', hp4, hhi⟩ := optI_path hk.sim hp3
    clear hp3
    obtain ⟨m, hp5, hm⟩ := optI_path hk.sim hp4
    clear hp4
    obtain ⟨hc, hc2, rfl, rfl⟩ := hp5
    obtain ⟨h0, h1, h2⟩ := inp_spec hc
    have h3 : m ≤ (l.length : Int) := of_decide_eq_true hc2
    obtain ⟨c, cap, e, hle, hmx, hl⟩ := len_slice hr
    obtain ⟨el, hu, he⟩ := und_slice hT hτ
    have hsz := run_sizeOf' (hT _ _ he) w
    have hpl := part_take l lo' hi' h0 h1 (by omega)
    -- the third bound: as given, or the capacity
    have fin : ∀ M : Int, hi' ≤ M → M ≤ (cap : Int) → (Instr.sliceBounds true l.length cap (lo.map a.eval) (hi.map a.eval) (mx.map a.eval)).run F.P w = .ok (lo'.toNat, hi'.toNat, M.toNat) w → Good F o a w s' (.dat (.slice τ) (part l lo' hi')) := by
      intro M hM1 hM2 hb
      refine good_dat hk.sim (u := .slice (if M.toNat = lo'.toNat then c else c.map (·.add (lo'.toNat * τ.size))) (hi'.toNat - lo'.toNat) (M.toNat - lo'.toNat)) ?_ ?_
      · simp only [execOp, ho, Instr.sliceAt, Sem.run_bind, run_underlying hu, Result.andThen_ok, Instr.slice, e, hb, hsz, Sem.run_pure]
      · have en : hi'.toNat - lo'.toNat = (part l lo' hi').length := by rw [hpl]; omega
        rw [en]
        refine ⟨[_], ⟨_, _, rfl, by rw [hpl]; omega, by omega, ?_⟩, rfl⟩
        by_cases hlt : lo' < hi'
        · rcases hl with rfl | ⟨b, ofs, rfl, css, hall, hlies⟩
          · simp at h3; omega
          · obtain ⟨q1, q2⟩ := part_lies hall hlies lo' hi'
            rw [if_neg (by omega)]
            exact .inr ⟨b, ofs + lo'.toNat * τ.size, by simp [Addr.add_mid], _, q1, q2⟩
        · exact .inl (List.eq_nil_of_length_eq_zero (by rw [hpl]; omega))
    rcases hm with ⟨rfl, rfl⟩ | ⟨ym, qm, rfl, em⟩
    · refine fin cap (by omega) (Int.le_refl _) ?_
      have := run_bounds (w := w) (P := F.P) (isSlice := true) (len := l.length) (cap := cap) (mx := none) (m := cap) hlo (hhi.imp (fun h => ⟨h.1, h.2, rfl⟩) id) (.inl ⟨rfl, rfl⟩) h0 h1 (by omega) (Int.le_refl _)
      exact this
    · rcases hhi with ⟨rfl, rfl⟩ | hhi
      · cases hform
      · exact fin m h2 (by omega) (run_bounds (w := w) (P := F.P) (isSlice := true) (len := l.length) (cap := cap) hlo (.inr hhi) (.inr ⟨ym, qm, rfl, em⟩) h0 h1 h2 (by omega))
  · rename_i m τ hτ
    split at hp1
    · rename_i o' τo p
      split at hp1
      · rename_i hty
        simp only [Bool.and_eq_true, decide_eq_true_eq] at hty
        obtain ⟨hty, hmb⟩ := hty
        have hmb := Nat.le_of_ble_eq_true hmb
        obtain ⟨l, hp2, hl⟩ := optI_path h hp1
        clear hp1
        obtain ⟨n, hp3, hn⟩ := optI_path h hp2
        clear hp2
        obtain ⟨hc, rfl, rfl⟩ := hp3
        obtain ⟨h0, h1, h2⟩ := inp_spec hc
        obtain ⟨b, off, k1, k2, k3⟩ := hrel
        obtain ⟨el, hu, he⟩ := (hT t _ hτ).und
        have hsz := run_sizeOf' (hT _ _ he) w
        have hb := run_bounds (w := w) (P := F.P) (isSlice := false) (len := m) (cap := m) (mx := none) (m := m) hl (hn.imp (fun h => ⟨h.1, h.2, rfl⟩) id) (.inl ⟨rfl, rfl⟩) h0 h1 h2 (Int.le_refl _)
        simp only [Option.map_none, Int.toNat_natCast] at hb
        refine good_same h (u := .slice (some ⟨b, if m = l.toNat then off + offP p τo else off + offP p τo + l.toNat * τ.size, none⟩) (n.toNat - l.toNat) (m - l.toNat)) ?_ (fun t' => ⟨b, off, m, τ, if m = l.toNat then off + offP p τo else off + offP p τo + l.toNat * τ.size, m - l.toNat, k1, k2, hty, h0, h1, h2, fun hlt => if_neg (by omega), by congr 1; omega, by omega, by unfold maxLen; omega⟩) fun k hk => hk.elim
        simp only [execOp, ho, Instr.sliceAt, Sem.run_bind, run_underlying hu, Result.andThen_ok, k3, Instr.sureAddr, Sem.run_pure, Option.map_none, hb, hsz]
        split <;> simp [Addr.add_mid]
      · exact hp1.elim
    · exact hp1.elim
  · exact hp1.elim
end
end Go.SX

-- SX: Sim12
namespace Go.SX
open Go.RowKit
set_option linter.unusedVariables false
set_option linter.unusedSimpArgs false

section
variable {F : Frm} {G G' : Gh} {s s' s1 : St} {a : Act} {w w' : World} {T : Tab} {cons : List Con}

theorem u8_cells {im : Nat → Nat → Prop} : ∀ {l : List Int} {css : List (List Value)}, All2 (Rep w im (.int .u8)) l css → css.flatten = l.map (Value.int .u8) ∧ ∀ n ∈ l, 0 ≤ n ∧ n < 256
  | [], [], _ => ⟨rfl, fun n hn => by cases hn⟩
  | x :: l, c :: css, h => by
    obtain ⟨h1, h2⟩ := u8_cells (l := l) h.2
    obtain ⟨e, hw⟩ := h.1
    rw [wrap_range] at hw
    have k1 : IntKind.u8.min = 0 := by decide
    have k2 : IntKind.u8.max = 255 := by decide
    rw [k1, k2] at hw
    refine ⟨by rw [List.flatten_cons, e, h1]; rfl, fun n hn => ?_⟩
    rcases List.mem_cons.1 hn with rfl | hn
    · omega
    · exact h2 n hn

theorem bytesD_fold : ∀ (l : List Int) (b : ByteArray), (∀ n ∈ l, 0 ≤ n ∧ n < 256) → bytesD (l.foldl (fun r n => r.push (UInt8.ofNat n.toNat)) b) = bytesD b ++ l
  | [], b, _ => by simp
  | n :: l, b, h => by
    have hn := h n List.mem_cons_self
    rw [List.foldl_cons, bytesD_fold l _ fun m hm => h m (List.mem_cons_of_mem _ hm)]
    have : bytesD (b.push (UInt8.ofNat n.toNat)) = bytesD b ++ [n] := by
      have e1 : (b.push (UInt8.ofNat n.toNat)).data.toList = b.data.toList ++ [UInt8.ofNat n.toNat] := by
        cases b; simp [ByteArray.push]
      have e2 : ((UInt8.ofNat n.toNat).toNat : Int) = n := by
        rw [UInt8.toNat_ofNat']; omega
      unfold bytesD
      rw [e1, List.map_append, List.map_cons, List.map_nil, e2]
    rw [this, List.append_assoc]; rfl

theorem run_bytes {l : List Int} {u : Value} (h : RepV w imT (.slice (.int .u8)) l u) : ∃ b, (Conv.bytesToString u).run F.P w = .ok (.string b) w ∧ bytesD b = l ∧ b.size ≤ maxLen := by
  obtain ⟨c, cap, rfl, hle, hmx, hl⟩ := len_slice h
  have fin : ∀ b : ByteArray, bytesD b = l → b.size ≤ maxLen := fun b hb => by rw [← bytesD_len, hb]; omega
  cases c with
  | none =>
    refine ⟨.empty, by simp [Conv.bytesToString], ?_, by decide⟩
    rcases hl with rfl | ⟨b, o, e, _⟩
    · rfl
    · cases e
  | some ad =>
    have hld : (loadCells ad l.length).run F.P w = .ok (l.map (Value.int .u8)).toArray w := by
      rcases hl with rfl | ⟨b, o, e, css, hall, hlies⟩
      · simp [loadCells, loadCellsFrom]
      · cases e
        obtain ⟨e1, e2⟩ := u8_cells hall
        have := run_loadCells_list (P := F.P) w ⟨b, o, none⟩ (l.map (Value.int .u8)) (fun j v hv => by rw [Addr.add_mid]; exact (hlies j v (by rw [e1]; exact hv)).1)
        simpa using this
    have hr : ∀ n ∈ l, 0 ≤ n ∧ n < 256 := by
      rcases hl with rfl | ⟨b, o, e, css, hall, hlies⟩
      · intro n hn; cases hn
      · exact (u8_cells hall).2
    have hb := bytesD_fold l ByteArray.empty hr
    have he : bytesD ByteArray.empty = [] := rfl
    rw [he, List.nil_append] at hb
    exact ⟨_, run_bytesToString w ad l.length cap l hld, hb, fin _ hb⟩

theorem convert_good (hT : TabOk F.P T) (h : Sim F G s a w) {o : Oper} {src dst : Nat} {x : Operand} (ho : o.op = .convert src dst x) {v : V} (hb : ¬ (T.ty src = some .str ∧ T.ty dst = some (.slice (.int .u8)))) (hp : Path (opConvert T (o.dst.getD 0) src dst x) s v s') : Good F o a w s' v := by
  unfold opConvert at hp
  obtain ⟨vx, tx, hx, hp1⟩ := vget_path h hp
  clear hp
  split at hp1
  · rename_i k0 k hs hd
    obtain ⟨q, n, e, hp2⟩ := asI_path hp1
    subst e
    obtain ⟨rfl, rfl⟩ := hp2
    obtain ⟨ei, wi⟩ := dat_int hx.rel
    have h1 : F.P.underlying src = some (.int k0) := (hT _ _ hs).und
    have h2 : F.P.underlying dst = some (.int k) := (hT _ _ hd).und
    exact good_dat h (u := .int k (iconv k n)) (by simp [execOp, ho, convert, run_underlying h1, run_underlying h2, ei, Conv.intToInt, iconv]) (mk_int _ _ (wrap_wrap _ _))
  · rename_i hs hd
    obtain ⟨l, hl, rfl, rfl⟩ := viewL_path h hx hp1
    obtain ⟨e, h1, he⟩ := und_slice hT hs
    have h2 : F.P.underlying dst = some .string := (hT _ _ hd).und
    have h3 : F.P.underlying e = some (.int .u8) := (hT _ _ he).und
    obtain ⟨b, hrun, hbd, hsz⟩ := run_bytes (F := F) hl
    refine good_dat h (u := .string b) ?_ (by rw [← hbd]; exact mk_str b hsz)
    obtain ⟨c, cap, ev, _⟩ := len_slice hl
    rw [ev] at hrun
    have := run_convert_bytes_string (P := F.P) w src dst e c l.length cap h1 h3 h2
    simp [execOp, ho, ev, this, hrun]
  · rename_i hs hd
    exact absurd ⟨hs, hd⟩ hb
  · rename_i hs hd
    split at hp1
    · obtain ⟨rfl, rfl⟩ := hp1
      obtain ⟨b, e, rfl, hmx⟩ := dat_str hx.rel
      have h1 : F.P.underlying src = some .string := (hT _ _ hs).und
      have h2 : F.P.underlying dst = some .string := (hT _ _ hd).und
      exact good_dat h (u := .string b) (by simp [execOp, ho, convert, run_underlying h1, run_underlying h2, e]) (mk_str b hmx)
    · exact hp1.elim
  · exact hp1.elim

theorem extract_good (h : Sim F G s a w) {o : Oper} {x : Operand} {i : Nat} (ho : o.op = .extract x i) {v : V} (hp : Path (opExtract x i) s v s') : Good F o a w s' v := by
  unfold opExtract at hp
  obtain ⟨vx, tx, hx, hp1⟩ := vget_path h hp
  clear hp
  split at hp1
  · rename_i vs t
    obtain ⟨rfl, hs⟩ := hx.tmp t rfl
    obtain ⟨cs, e, hlen, hc⟩ := hx.rel
    split at hp1
    rotate_left
    · exact hp1.elim
    rename_i hbl
    simp only [Bool.and_eq_true] at hbl
    obtain ⟨hlen, hlen2⟩ := hlen
    have hlt : i < vs.length := Nat.le_of_ble_eq_true hbl.1
    have hlt2 : i < 1000 := Nat.le_of_ble_eq_true hbl.2
    have hi : (execOp a.eval o).run F.P w = .ok (.value (cs.getD i undef)) w := by
      have : i < cs.length := by omega
      simp [execOp, ho, Instr.extract, e, this, List.getD_eq_getElem?_getD]
    have hci := hc i
    split at hp1
    · rename_i τ l wf ap ver e1
      obtain ⟨rfl, rfl⟩ := hp1
      rw [e1] at hci
      obtain ⟨k1, k2⟩ := hci
      have hn : s.used.getD ver true = true := h.named (t := tx) (by rw [← hs]; exact ⟨i, by rw [e1]; rfl⟩)
      refine .value hi ?_
      have hvt : RelV F (SX.reloc G (tx, i + 1) (o.dst.getD 0, 0)) w tx (.tup (vs.set i .undef)) (a.tmps.getD tx undef) := by
        refine ⟨cs, e, by simp [hlen, hlen2], fun j => ?_⟩
        by_cases hj : j = i
        · subst hj
          have : (vs.set j V.undef).getD j .undef = .undef := by simp [List.getD_eq_getElem?_getD, List.getElem?_set]; split <;> rfl
          rw [this]; trivial
        · have : (vs.set i V.undef).getD j .undef = vs.getD j .undef := by simp [List.getD_eq_getElem?_getD, List.getElem?_set_ne (Ne.symm hj)]
          rw [this]
          exact (hc j).mono (reloc_stays G w _ _) (fun he => hj (by simpa using he)) fun n _ => rfl
      have hnt : ∀ n, names n (.tup (vs.set i .undef)) → s.used.getD n true = true := by
        rintro n ⟨j, hj⟩
        by_cases hji : j = i
        · subst hji
          have : (vs.set j V.undef).getD j .undef = .undef := by simp [List.getD_eq_getElem?_getD, List.getElem?_set]; split <;> rfl
          rw [this] at hj; exact hj.elim
        · have : (vs.set i V.undef).getD j .undef = vs.getD j .undef := by simp [List.getD_eq_getElem?_getD, List.getElem?_set_ne (Ne.symm hji)]
          rw [this] at hj
          exact h.named (t := tx) (by rw [← hs]; exact ⟨j, hj⟩)
      cases hd : o.dst with
      | none => rw [hd] at hvt; exact ⟨_, h.reloc tx (i + 1) (0, 0) _ hvt hnt (by unfold OBJ; omega)⟩
      | some d => rw [hd] at hvt; exact h.moveOwn k1 k2 hn d _ hvt hnt (by unfold OBJ; omega)
    · rename_i v1 hno
      obtain ⟨rfl, rfl⟩ := hp1
      have hf : freeV (vs.getD i .undef) := by
        cases hv : vs.getD i .undef with
        | own τ l wf ap ver => exact absurd hv (hno _ _ _ _ _)
        | tup us => rw [hv] at hci; exact hci.elim
        | _ => trivial
      refine good_same h hi (fun t' => RelC.free hf hci t') fun n hn => h.named (t := tx) ?_
      rw [← hs]
      refine ⟨i, ?_⟩
      rwa [names_eqC (fun us e => by rw [e] at hf; exact hf)] at hn
  · exact hp1.elim
end
end Go.SX

-- SX: Sim13
namespace Go.SX
open Go.RowKit
set_option linter.unusedVariables false
set_option linter.unusedSimpArgs false

section
variable {F : Frm} {G G' : Gh} {s s' s1 : St} {a : Act} {w w' : World} {T : Tab} {cons : List Con}

theorem zero_rep (im : Nat → Nat → Prop) : ∀ τ : Ty, Rep w im τ τ.dflt (zeroCs τ)
  | .int k => ⟨rfl, by cases k <;> decide⟩
  | .bool => rfl
  | .str => ⟨⟨#[]⟩, rfl, rfl, by decide⟩
  | .snil => rfl
  | .scons t r => ⟨_, _, rfl, zero_rep im t, zero_rep im r⟩
  | .arr n t => ⟨by simp [Ty.dflt], _, rfl, All2.replicate (zero_rep im t) n⟩
  | .slice t => ⟨none, 0, rfl, Nat.le_refl _, Nat.zero_le _, .inl rfl⟩
  | .vec _ t => ⟨none, 0, rfl⟩
  | .bld _ _ => ⟨none, none, 0, rfl⟩

theorem foldl_set (off : Nat) : ∀ (vs : List Value) (k : Nat) (cells : Array Value), ((vs.zipIdx k).foldl (fun cs (x : Value × Nat) => cs.setIfInBounds (off + x.2) x.1) cells).size = cells.size ∧
    ∀ i, i < cells.size → ((vs.zipIdx k).foldl (fun cs (x : Value × Nat) => cs.setIfInBounds (off + x.2) x.1) cells)[i]? = if off + k ≤ i ∧ i < off + k + vs.length then vs[i - (off + k)]? else cells[i]?
  | [], k, cells => ⟨rfl, fun i hi => by simp; omega⟩
  | v :: vs, k, cells => by
    obtain ⟨h1, h2⟩ := foldl_set off vs (k + 1) (cells.setIfInBounds (off + k) v)
    rw [List.zipIdx_cons, List.foldl_cons]
    refine ⟨by simpa using h1, fun i hi => ?_⟩
    rw [h2 i (by simpa using hi)]
    by_cases e : i = off + k
    · subst e
      rw [if_neg (by omega), if_pos (by simp)]
      simp [hi]
    · by_cases hin : off + (k + 1) ≤ i ∧ i < off + (k + 1) + vs.length
      · rw [if_pos hin, if_pos (by simp; omega)]
        rw [show i - (off + k) = (i - (off + (k + 1))) + 1 by omega]; simp
      · rw [if_neg hin, if_neg (by simp; omega), Array.getElem?_setIfInBounds_ne (by omega)]

theorem fill_one (off : Nat) (vs : List Value) (cells : List Value) (h : off + vs.length ≤ cells.length) :
    (vs.toArray.zipIdx.foldl (fun cs (x : Value × Nat) => cs.setIfInBounds (off + x.2) x.1) cells.toArray) = (cells.take off ++ vs ++ cells.drop (off + vs.length)).toArray := by
  have e : vs.toArray.zipIdx.foldl (fun cs (x : Value × Nat) => cs.setIfInBounds (off + x.2) x.1) cells.toArray = (vs.zipIdx 0).foldl (fun cs (x : Value × Nat) => cs.setIfInBounds (off + x.2) x.1) cells.toArray := by
    rw [← Array.foldl_toList]; simp
  rw [e]
  obtain ⟨h1, h2⟩ := foldl_set off vs 0 cells.toArray
  apply Array.ext_getElem?
  intro i
  by_cases hi : i < cells.length
  · rw [h2 i (by simpa using hi)]
    simp only [Nat.add_zero, List.getElem?_toArray, List.append_assoc]
    by_cases c1 : i < off
    · rw [if_neg (by omega), List.getElem?_append_left (by simp; omega), List.getElem?_take, if_pos c1]
    · have hlt : (cells.take off).length = off := by simp; omega
      rw [List.getElem?_append_right (by omega), hlt]
      by_cases c2 : i < off + vs.length
      · rw [if_pos (by omega), List.getElem?_append_left (by omega)]
      · rw [if_neg (by omega), List.getElem?_append_right (by omega), List.getElem?_drop]
        congr 1; omega
  · rw [Array.getElem?_eq_none (by rw [h1]; simpa using hi)]
    symm
    apply Array.getElem?_eq_none
    simp; omega

/-- the fields' places -/
theorem fill_struct (hT : TabOk F.P T) {τ : Ty} {fs : Array Field} (hfs : TyUnd.FieldsOk T fs.toList 0 τ) : ∀ (ps : List (Nat × Operand)) (s : St) (G : Gh) (x : τ.D) (cs : List Value) (k : τ.D → Cmd) (r : V), Sim F G s a w → Rep w G.im τ x cs → Path (buildCmd τ ps x k) s r s' →
    ∃ y G1 s1 cs1, Kept F G s a w G1 s1 ∧ Rep w G1.im τ y cs1 ∧ Instr.fill ((fs.map fun f => (f.offset, ((T.ty f.type).map Ty.size).getD 0))[·]?) cs.toArray (ps.map fun p => (p.1, a.eval p.2)) = some cs1.toArray ∧ Path (k y) s1 r s'
  | [], s, G, x, cs, k, r, h, hr, hp => ⟨x, G, s, cs, .refl h, hr, rfl, hp⟩
  | (i, o) :: ps, s, G, x, cs, k, r, h, hr, hp => by
    simp only [buildCmd] at hp
    split at hp
    · rename_i φ hφ
      obtain ⟨vx, tx, hx, hp1⟩ := vget_path h hp
      clear hp
      obtain ⟨y, G1, s1, hk, hy, hp2⟩ := keepD_path h hx hp1
      clear hp1
      split at hp2
      · rename_i x' hx'
        obtain ⟨σ, z, z', e1, e2, e3⟩ := fldS_rep (w := w) (im := G1.im) τ x x' i hx'
        rw [hφ] at e1; cases e1
        obtain ⟨e, e2⟩ := cast_some e2
        cases e
        simp only at e2; subst e2
        obtain ⟨m1, m2, m3⟩ := e3 cs (hk.rep hr)
        have hyr := rep_of_V hy
        have hnew := m3 _ hyr
        have hyl := hyr.length
        obtain ⟨y2, G2, s2, cs2, hk2, hr2, hf2, hp3⟩ := fill_struct hT hfs ps s1 G1 x' _ k r hk.sim hnew hp2
        refine ⟨y2, G2, s2, cs2, hk.trans hk2, hr2, ?_, hp3⟩
        obtain ⟨f, hf, hft, hfo⟩ := fieldsOk_get fs.toList 0 τ i φ hfs hφ
        have hplace : (fs.map fun f => (f.offset, ((T.ty f.type).map Ty.size).getD 0))[i]? = some (fldOff τ i, φ.size) := by
          have : fs[i]? = some f := by simpa using hf
          simp [this, hft, hfo]
        simp only [List.map_cons, Instr.fill, hplace]
        have hsz : (a.eval o).cells.size = φ.size := by simpa using hyl
        rw [if_neg (by simp [hsz]; omega)]
        have hone := fill_one (fldOff τ i) (a.eval o).cells.toList cs (by rw [hyl]; exact m2)
        simp only [Array.toArray_toList] at hone
        rw [hone, hyl]
        exact hf2
      · exact hp2.elim
    · exact hp.elim

theorem fill_elems (hT : TabOk F.P T) {τ : Ty} : ∀ (ps : List (Nat × Operand)) (s : St) (G : Gh) (l : List τ.D) (css : List (List Value)) (k : List τ.D → Cmd) (r : V), Sim F G s a w → All2 (Rep w G.im τ) l css → Path (elemsCmd τ ps l k) s r s' →
    ∃ l' G1 s1 css1, Kept F G s a w G1 s1 ∧ All2 (Rep w G1.im τ) l' css1 ∧ l'.length = l.length ∧ Instr.fill (fun i => some (i * τ.size, τ.size)) css.flatten.toArray (ps.map fun p => (p.1, a.eval p.2)) = some css1.flatten.toArray ∧ Path (k l') s1 r s'
  | [], s, G, l, css, k, r, h, hr, hp => ⟨l, G, s, css, .refl h, hr, rfl, rfl, hp⟩
  | (i, o) :: ps, s, G, l, css, k, r, h, hr, hp => by
    simp only [elemsCmd] at hp
    split at hp
    · rename_i hi
      have hi : i < l.length := Nat.le_of_ble_eq_true hi
      obtain ⟨vx, tx, hx, hp1⟩ := vget_path h hp
      clear hp
      obtain ⟨y, G1, s1, hk, hy, hp2⟩ := keepD_path h hx hp1
      clear hp1
      have hyr := rep_of_V hy
      have hyl := hyr.length
      have hr1 : All2 (Rep w G1.im τ) l css := hr.mono fun _ _ h => hk.rep h
      have hnew := hr1.set i hyr
      obtain ⟨l', G2, s2, css2, hk2, hr2, hlen, hf2, hp3⟩ := fill_elems hT ps s1 G1 _ _ k r hk.sim hnew hp2
      refine ⟨l', G2, s2, css2, hk.trans hk2, hr2, by rw [hlen, List.length_set], ?_, hp3⟩
      have hcl := hr1.length
      have hfl := flatten_len hr1.lens
      have hbig : i * τ.size + τ.size ≤ css.flatten.length := by
        rw [hfl, ← Nat.succ_mul]; exact Nat.mul_le_mul_right _ (by omega)
      simp only [List.map_cons, Instr.fill]
      have hsz : (a.eval o).cells.size = τ.size := by simpa using hyl
      rw [if_neg (by rw [hsz]; simp only [ne_eq, not_true_eq_false, decide_false, Bool.false_or, List.size_toArray, decide_eq_true_eq]; omega)]
      have hone := fill_one (i * τ.size) (a.eval o).cells.toList css.flatten (by rw [hyl]; exact hbig)
      simp only [Array.toArray_toList] at hone
      rw [hone, hyl, ← flatten_set hr1.lens i _ hyl (by omega)]
      exact hf2
    · exact hp.elim

theorem exec_build {o : Oper} {t : Nat} {ps : Array (Nat × Operand)} {u : Value} (ho : o.op = .build t ps) (h : (Instr.build t (ps.map fun (i, x) => (i, a.eval x))).run F.P w = .ok u w) : (execOp a.eval o).run F.P w = .ok (.value u) w := by
  simp only [execOp, ho, Sem.run_bind, h, Result.andThen_ok, Sem.run_pure]

theorem run_zeroValue {t : Nat} {τ : Ty} (ht : TyFact F.P T t τ) : (zeroValue t).run F.P w = .ok (valOf τ (zeroCs τ)) w := by
  obtain ⟨i, h1, h2, h3⟩ := ht.info
  simp [zeroValue, typeInfo, h1, h3]

theorem zero_cells {τ : Ty} : (valOf τ (zeroCs τ)).cells = (zeroCs τ).toArray := (zero_rep (w := default) (fun _ _ => True) τ).cells

theorem mapM_places (hT : TabOk F.P T) : ∀ (fs : List Field) (off : Nat) (τ : Ty), TyUnd.FieldsOk T fs off τ →
    (fs.mapM fun f => (do pure (f.offset, ← sizeOf f.type) : Sem (Nat × Nat))).run F.P w = .ok (fs.map fun f => (f.offset, ((T.ty f.type).map Ty.size).getD 0)) w
  | [], _, _, _ => by simp
  | f :: fs, off, .scons t r, h => by
    have ih := mapM_places hT fs (off + t.size) r h.2.2.2
    have hsz := run_sizeOf' (hT _ _ h.1) w
    simp only [List.mapM_cons, Sem.run_bind, hsz, Result.andThen_ok, Sem.run_pure, ih, h.1, Option.map_some, Option.getD_some, List.map_cons]
  | _ :: _, _, .int _, h => h.elim
  | _ :: _, _, .bool, h => h.elim
  | _ :: _, _, .str, h => h.elim
  | _ :: _, _, .snil, h => h.elim
  | _ :: _, _, .arr _ _, h => h.elim
  | _ :: _, _, .slice _, h => h.elim

theorem build_good (hT : TabOk F.P T) (h : Sim F G s a w) {o : Oper} {t : Nat} {ps : Array (Nat × Operand)} (ho : o.op = .build t ps) {v : V} (hp : Path (opBuild T t ps.toList) s v s') : Good F o a w s' v := by
  unfold opBuild at hp
  have eps : (ps.map fun (x : Nat × Operand) => (x.1, a.eval x.2)).toList = ps.toList.map fun p => (p.1, a.eval p.2) := by simp
  split at hp
  · rename_i m τ hτ
    obtain ⟨el, hu, he⟩ := (hT t _ hτ).und
    have hz : All2 (Rep w G.im τ) (List.replicate m τ.dflt) (List.replicate m (zeroCs τ)) := All2.replicate (zero_rep _ _) m
    obtain ⟨l', G1, s1, css1, hk, hr, hlen, hf, hp2⟩ := fill_elems hT ps.toList s G _ _ _ v h hz hp
    obtain ⟨rfl, rfl⟩ := hp2
    have hrep : Rep w G1.im (.arr m τ) l' css1.flatten := ⟨by rw [hlen]; simp, css1, rfl, hr⟩
    refine good_dat hk.sim (u := .agg css1.flatten.toArray) (exec_build ho ?_) ⟨_, hrep, rfl⟩
    have hsz := run_sizeOf' (hT _ _ he) w
    have hzv := run_zeroValue (F := F) (w := w) (hT t _ hτ)
    have hzc : (valOf (.arr m τ) (zeroCs (.arr m τ))).cells = (List.replicate m (zeroCs τ)).flatten.toArray := zero_cells
    simp only [Instr.build, Sem.run_bind, hzv, Result.andThen_ok, run_underlying hu, hsz, hzc]
    rw [eps, hf]
    simp
  · rename_i τ hnarr hτ
    split at hp
    · rename_i hagg2
      simp only [Bool.and_eq_true, Bool.not_eq_true'] at hagg2
      obtain ⟨hagg, hno⟩ := hagg2
      have hstruct : ∃ fs, F.P.underlying t = some (.struct fs) ∧ TyUnd.FieldsOk T fs.toList 0 τ := by
        have := (hT t _ hτ).und
        cases τ with
        | scons a b => exact this
        | snil => exact this
        | arr n t' => exact absurd rfl (hnarr _ _)
        | bld e u => cases hno
        | _ => cases hagg
      obtain ⟨fs, hu, hfs⟩ := hstruct
      obtain ⟨y, G1, s1, cs1, hk, hr, hf, hp2⟩ := fill_struct hT hfs ps.toList s G τ.dflt (zeroCs τ) _ v h (zero_rep _ _) hp
      obtain ⟨rfl, rfl⟩ := hp2
      refine good_dat hk.sim (u := valOf τ cs1) (exec_build ho ?_) (V_of_rep hr)
      have hzv := run_zeroValue (F := F) (w := w) (hT t _ hτ)
      have hmm := mapM_places (w := w) hT fs.toList 0 τ hfs
      have hmm2 : (fs.mapM fun f => (do pure (f.offset, ← sizeOf f.type) : Sem (Nat × Nat))).run F.P w = .ok (fs.map fun f => (f.offset, ((T.ty f.type).map Ty.size).getD 0)) w := by
        rw [Array.mapM_eq_mapM_toList]
        simp only [map_eq_pure_bind, Sem.run_bind, hmm, Result.andThen_ok, Sem.run_pure]
        rw [List.map_toArray, Array.toArray_toList]
      simp only [Instr.build, Sem.run_bind, hzv, Result.andThen_ok, run_underlying hu, hmm2, zero_cells]
      rw [eps, hf]
      simp [valOf, hagg]
    · exact hp.elim
  · exact hp.elim
end
end Go.SX

-- SX: Sim14
namespace Go.SX
open Go.RowKit
set_option linter.unusedVariables false
set_option linter.unusedSimpArgs false

section
variable {F : Frm} {G G' : Gh} {s s' s1 : St} {a : Act} {w w' : World} {T : Tab} {cons : List Con}

theorem alloc_grows (h : Sim F G s a w) (o : Obj) : Grows s G G w (w.alloc o) :=
  ⟨rfl, rfl, rfl, by simp, fun b hb => Below.heap_alloc w o b hb, fun _ _ h => h, fun b i hi => ⟨.inl hi, by have := h.imlt b i hi; simp; omega⟩, fun _ _ => rfl, fun b L hL => by have := (h.owlt b L hL).2; simp; omega, rfl, fun _ _ => rfl⟩

/-- an object more -/
theorem Sim.addOb (h : Sim F G s a w) {d nb : Nat} {τ : Ty} {ob : Ob} (hd : d < F.N) (hno : s.ob d = .none) (hoff : ob.off = false) (hnro : ∀ τ' y, ob ≠ .ro τ' y) (hvar : ∀ τ' y, ob = .var τ' y → τ' = τ ∧ ObR F G w nb 0 τ' y true)
    (hvob : ∀ τ' y k, ob = .vob τ' y k → τ' = τ ∧ VobC w (Bw F) G.im G.ow d 0 nb 0 τ' y true) (hbase : F.W0.heap.size ≤ nb) (how : G.ow nb = none) (hfar : ∀ o b off τ, G.site o = some (b, off, τ) → b ≠ nb) :
    Sim F { G with site := fun o => if o = d then some (nb, 0, τ) else G.site o } (s.setOb d ob) a w := by
  have hdl : d < s.objs.length := by rw [h.obl]; exact hd
  let G1 : Gh := { G with site := fun o => if o = d then some (nb, 0, τ) else G.site o }
  have hsite : ∀ o y, G.site o = some y → G1.site o = some y := fun o y ho => by
    have : o ≠ d := by rintro rfl; rw [h.dead.1 _ (by rw [hno]; rfl)] at ho; cases ho
    simp only [G1, if_neg this]; exact ho
  have st : Stays (fun _ => False) G G1 w w := ⟨fun _ _ _ _ h => h, fun _ _ h => h, fun g L hL _ => ⟨hL, rfl, fun _ h => h⟩, hsite⟩
  refine ⟨h.defers, h.tmps, h.env, by simp [St.setOb, h.obl], h.usl, h.keep, fun t => (h.vals t).mono st (fun _ _ => id) fun _ _ => rfl, ?_, ?_, ?_, ?_, ?_, ?_, h.imlt, h.imb, h.im0, h.owlt, h.used⟩
  · intro o τ' y hy
    by_cases e1 : o = d
    · subst e1
      rw [St.ob_setOb_same _ _ _ hdl] at hy
      obtain ⟨rfl, hr⟩ := hvar _ _ hy
      exact ⟨nb, 0, by simp, hr⟩
    · rw [St.ob_setOb_ne _ _ _ _ (Ne.symm e1)] at hy
      obtain ⟨b, off, h1, h2⟩ := h.vars o τ' y hy
      exact ⟨b, off, hsite o _ h1, h2⟩
  · intro o τ' y hy
    by_cases e1 : o = d
    · subst e1
      rw [St.ob_setOb_same _ _ _ hdl] at hy
      exact absurd hy (hnro _ _)
    · rw [St.ob_setOb_ne _ _ _ _ (Ne.symm e1)] at hy
      obtain ⟨b, off, h1, h2⟩ := h.ros o τ' y hy
      exact ⟨b, off, hsite o _ h1, h2⟩
  · intro o τ' y k hy
    by_cases e1 : o = d
    · subst e1
      rw [St.ob_setOb_same _ _ _ hdl] at hy
      obtain ⟨rfl, hr⟩ := hvob _ _ _ hy
      exact ⟨nb, 0, by simp, hr, hbase⟩
    · rw [St.ob_setOb_ne _ _ _ _ (Ne.symm e1)] at hy
      obtain ⟨b, off, h1, h2⟩ := h.vobs o τ' y k hy
      exact ⟨b, off, hsite o _ h1, h2⟩
  · refine ⟨fun o ho => ?_, fun o x hx => ?_⟩
    · by_cases e1 : o = d
      · subst e1
        rw [St.ob_setOb_same _ _ _ hdl, hoff] at ho; cases ho
      · rw [St.ob_setOb_ne _ _ _ _ (Ne.symm e1)] at ho
        simp only [if_neg e1]; exact h.dead.1 o ho
    · obtain ⟨k1, k2, k3, k4⟩ := h.dead.2 o x hx
      have e1 : o ≠ d := by rintro rfl; exact k3 hno
      exact ⟨k1, k2, by rw [St.ob_setOb_ne _ _ _ _ (Ne.symm e1)]; exact k3, fun y hy => k4 y (by simpa only [if_neg e1] using hy)⟩
  · intro o o' b off τ1 b' off' τ2 hne h1 h2
    simp only at h1 h2
    by_cases e1 : o = d
    · subst e1
      rw [if_neg (Ne.symm hne)] at h2
      simp only [if_true] at h1; cases h1
      exact .inl (Ne.symm (hfar _ _ _ _ h2))
    · rw [if_neg e1] at h1
      by_cases e2 : o' = d
      · subst e2
        simp only [if_true] at h2; cases h2
        exact .inl (hfar _ _ _ _ h1)
      · rw [if_neg e2] at h2
        exact h.apart o o' _ _ _ _ _ _ hne h1 h2
  · intro o b off τ1 h1
    simp only at h1
    by_cases e1 : o = d
    · subst e1; simp only [if_true] at h1; cases h1; exact how
    · rw [if_neg e1] at h1; exact h.sow o b off τ1 h1

theorem site_lt (h : Sim F G s a w) {o b off : Nat} {τ : Ty} (hs : G.site o = some (b, off, τ)) : b < w.heap.size := by
  rcases objR h hs with ⟨x, _, cs, c, e, fz, _, h2, _⟩ | ⟨x, _, cs, c, e, fz, _, h2, _⟩ | ⟨x, k, _, h2⟩
  · exact heap_lt h2
  · exact heap_lt h2
  · exact h2.lt

theorem put_out {d : Nat} (hd : ¬ d < F.N) (h : Sim F G s a w) (x : Ob) (v : V) (u : Value) : (s.setOb d x).put d v = s ∧ a.put (some d) u = a := by
  have e1 : s.setOb d x = s := by
    have : ¬ d < s.objs.length := by rw [h.obl]; exact hd
    cases s; simp only [St.setOb, St.mk.injEq, and_true, true_and]; exact List.set_eq_of_length_le (by simpa using this)
  have e2 : s.put d v = s := St.get_put_out s d _ (by rw [h.env]; exact hd)
  have e3 : a.put (some d) u = a := by
    have : ¬ d < a.tmps.size := by rw [h.tmps]; exact hd
    cases a
    simp only [Act.put, Act.mk.injEq, and_true]
    exact Array.setIfInBounds_eq_of_size_le (by simpa using this)
  exact ⟨by rw [e1, e2], e3⟩

/-- a variable of its own -/
theorem Sim.newVar (h : Sim F G s a w) {d : Nat} {τ : Ty} {x : τ.D} {cs : List Value} (e : TypeId) (hno : s.ob d = .none) (hr : Rep w G.im τ x cs) :
    ∃ G', Sim F G' ((s.setOb d (.var τ x)).put d (.ptr d τ [])) (a.put (some d) (.pointer (some ⟨w.heap.size, 0, none⟩))) (w.alloc (.cells cs.toArray e)) := by
  have g := alloc_grows h (.cells cs.toArray e)
  have h1 := h.grow g h.base
  by_cases hd : d < F.N
  · have hb : (w.alloc (.cells cs.toArray e)).heap[w.heap.size]? = some (.cells cs.toArray e) := heap_alloc_new w _
    have hr' : Rep (w.alloc (.cells cs.toArray e)) G.im τ x cs := hr.mono (g.stays h).cell fun _ _ h => h
    have him : ∀ i, ¬ G.im w.heap.size i := fun i hi => by have := h.imlt _ _ hi; omega
    have h2 := h1.addOb (τ := τ) (ob := .var τ x) hd hno rfl (fun _ _ e => by cases e) (fun τ' y hy => by cases hy; exact ⟨rfl, cs, cs.toArray, e, (0, 0), hr', hb, fun j hj => by simp, fun _ => ⟨fun j hj => by omega, fun j hj => him _, .inl h.base⟩⟩) (fun _ _ _ e => by cases e) h.base (by
      cases ho : G.ow w.heap.size with
      | none => rfl
      | some L => have := (h.owlt _ _ ho).2; omega) (fun o b off τ ho => by have := site_lt h ho; omega)
    refine ⟨_, h2.put d _ _ ⟨w.heap.size, 0, by simp, trivial, by simp [offP]⟩ fun n hn => hn.elim⟩
  · obtain ⟨e1, e2⟩ := put_out hd h (.var τ x) (.ptr d τ []) (.pointer (some ⟨w.heap.size, 0, none⟩))
    exact ⟨G, by rw [e1, e2]; exact h1⟩

/-- an object that owns memory: one of its own -/
theorem Sim.newVob (h : Sim F G s a w) {d : Nat} {τ : Ty} {x : τ.D} {cs : List Value} (e : TypeId) (hno : s.ob d = .none) (k : Nat) (hr : ∀ w1 G1, Rep w1 G1 τ x cs) (hl : ∀ Q : Nat → (t : Ty) → List t.D → Lf → Value → Prop, (∀ j t k, Q j t [] k (.slice none 0 0)) → LeafsR Q τ x 0 cs) (hs : Self w.heap.size 0 cs.toArray e (0, 0) τ) :
    ∃ G', Sim F G' ((s.setOb d (.vob τ x k)).put d (.ptr d τ [])) (a.put (some d) (.pointer (some ⟨w.heap.size, 0, none⟩))) (w.alloc (.cells cs.toArray e)) := by
  have g := alloc_grows h (.cells cs.toArray e)
  have h1 := h.grow g h.base
  by_cases hd : d < F.N
  · have hb : (w.alloc (.cells cs.toArray e)).heap[w.heap.size]? = some (.cells cs.toArray e) := heap_alloc_new w _
    have him : ∀ i, ¬ G.im w.heap.size i := fun i hi => by have := h.imlt _ _ hi; omega
    have h2 := h1.addOb (τ := τ) (ob := .vob τ x k) hd hno rfl (fun _ _ e => by cases e) (fun _ _ e => by cases e) (fun τ' y k' hy => by cases hy; exact ⟨rfl, cs, cs.toArray, e, (0, 0), hr _ _, hb, fun j hj => by simp, fun _ => ⟨fun j hj => by omega, fun j hj => him _⟩, hl _ fun _ _ _ => .inl ⟨rfl, rfl⟩, hs⟩) h.base (by
      cases ho : G.ow w.heap.size with
      | none => rfl
      | some L => have := (h.owlt _ _ ho).2; omega) (fun o b off τ ho => by have := site_lt h ho; omega)
    refine ⟨_, h2.put d _ _ ⟨w.heap.size, 0, by simp, trivial, by simp [offP]⟩ fun n hn => hn.elim⟩
  · obtain ⟨e1, e2⟩ := put_out hd h (.vob τ x k) (.ptr d τ []) (.pointer (some ⟨w.heap.size, 0, none⟩))
    exact ⟨G, by rw [e1, e2]; exact h1⟩

theorem used_same (s : St) (n : Nat) : (s.use n).used.getD n true = true := by
  simp only [St.use, List.getD_eq_getElem?_getD, List.getElem?_set]
  split
  · split <;> rfl
  · rename_i h; exact absurd trivial h
theorem used_mono (s : St) (n m : Nat) (h : s.used.getD m true = true) : (s.use n).used.getD m true = true := by
  by_cases e : n = m
  · subst e; exact used_same s n
  · simp only [St.use, List.getD_eq_getElem?_getD, List.getElem?_set_ne e] at h ⊢; exact h

/-- a row of its own -/
theorem Sim.newOwn (h : Sim F G s a w) (od : Option Nat) {d : Nat} (hod : ∀ t, od = some t → t = d) {τ : Ty} {l : List τ.D} {css : List (List Value)} {cur : Array Value} {e : TypeId} {fz : Nat × Nat} {cap : Nat} {ap : Bool} {w1 : World}
    (hfr : s.used.getD d true = false) (g : Grows s G G w w1) (hb : w1.heap[w.heap.size]? = some (.cells cur e fz)) (hall : All2 (Rep w G.im τ) l css) (hle : l.length ≤ cap) (hmx : cap ≤ maxLen) (hsz : cur.size = cap * τ.size)
    (htk : cur.toList.take (l.length * τ.size) = css.flatten) (hfz : ∀ i, i < cap * τ.size → ¬ (fz.1 ≤ i ∧ i < fz.2)) (hap : ap = true → fz = (0, 0)) (wf : Bool := true) :
    ∃ G', Sim F G' (SX.putd (s.use d) od (.own τ l wf ap d)) (a.put od (.slice (some ⟨w.heap.size, 0, none⟩) l.length cap)) w1 := by
  let v : Value := .slice (some ⟨w.heap.size, 0, none⟩) l.length cap
  let G1 : Gh := { G with hd := fun n => if n = d then v else G.hd n, ow := fun b => if b = w.heap.size then some (d, 0) else G.ow b }
  have hlt1 := heap_lt hb
  have g1 : Grows s G G1 w w1 := by
    refine ⟨g.os, g.tape, g.output, g.size, g.block, g.im, g.im', fun b hb => if_neg (by omega), fun b L hL => ?_, rfl, fun n hn => if_neg ?_⟩
    · by_cases e1 : b = w.heap.size
      · subst e1; exact hlt1
      · simp only [G1, if_neg e1] at hL; exact g.ow' b L hL
    · rintro rfl; rw [hfr] at hn; cases hn
  have h1 := (h.grow g1 h.base).use d
  have hst := g1.stays h
  refine ⟨G1, ?_⟩
  cases hod' : od with
  | none => exact h1
  | some t =>
    have := hod t hod'
    subst this
    refine h1.put t (.own τ l wf ap t) v ⟨by simp [G1, v], .inr ⟨w.heap.size, cap, cur, e, fz, css, rfl, h.base, by simp [G1], hb, hle, hmx, hsz, hall.mono fun _ _ hr => hr.mono hst.cell hst.im, htk, hfz, hap, fun i _ hi => ?_, fun _ i hi => ?_⟩⟩ fun n hn => by cases hn; exact used_same s _
    · have := h.imlt _ _ hi; omega
    · have := h.imlt _ _ hi; omega

/-! ### writing -/
/-- one block is written at some cells -/
structure Wrote (Z : Nat → Prop) (g : Nat) (w w1 : World) : Prop where
  os : w1.os = w.os
  tape : w1.tape = w.tape
  output : w1.output = w.output
  size : w1.heap.size = w.heap.size
  other : ∀ b, b ≠ g → w1.heap[b]? = w.heap[b]?
  cells : ∃ c c' e fz, w.heap[g]? = some (.cells c e fz) ∧ w1.heap[g]? = some (.cells c' e fz) ∧ c'.size = c.size ∧ ∀ i, ¬ Z i → c'[i]? = c[i]?

theorem setCells_wrote {g o : Nat} {vs : List Value} {c : Array Value} {e : TypeId} {fz : Nat × Nat} (h : w.heap[g]? = some (.cells c e fz)) : Wrote (fun i => o ≤ i ∧ i < o + vs.length) g w (w.setCells g o vs) := by
  obtain ⟨c', h1, h2, h3, h4⟩ := setCells_heap vs o w c h
  obtain ⟨k1, k2, k3⟩ := setCells_same vs o w (b := g)
  exact ⟨k1, k2, k3, setCells_size vs o w, fun b hb => setCells_other vs o w b hb, c, c', e, fz, h, h1, h2, fun i hi => h3 i (by omega)⟩

theorem Wrote.keep {Z : Nat → Prop} {g : Nat} {w w1 : World} {mu : Nat → Nat → Prop} (h : Wrote Z g w w1) (hm : ∀ i, Z i → mu g i) : Keep mu w w1 := by
  obtain ⟨c, c', e, fz, h1, h2, h3, h4⟩ := h.cells
  refine ⟨h.os, h.tape, h.output, by rw [h.size]; exact Nat.le_refl _, fun b hb hn => ?_, fun b c1 e1 fz1 hb => ?_⟩
  · by_cases e1 : b = g
    · subst e1
      rw [h2, h1]
      have : c' = c := by
        apply Array.ext_getElem?
        intro i
        exact h4 i fun hz => hn i (hm i hz)
      rw [this]
    · exact h.other b e1
  · by_cases e2 : b = g
    · subst e2
      rw [h1] at hb; cases hb
      exact ⟨c', h2, h3, fun i hi => h4 i fun hz => hi (hm i hz)⟩
    · exact ⟨c1, by rw [h.other b e2]; exact hb, rfl, fun _ _ => rfl⟩

theorem Wrote.stays {Z : Nat → Prop} {g : Nat} {w1 : World} (h : Wrote Z g w w1) (hz : ∀ i, Z i → ¬ G.im g i) : Stays (fun L => G.ow g = some L) G G w w1 := by
  obtain ⟨c, c', e, fz, h1, h2, h3, h4⟩ := h.cells
  refine ⟨fun b i v hi hc => ?_, fun _ _ h => h, fun b L hL hX => ⟨hL, ?_, fun _ h => h⟩, fun _ _ h => h⟩
  · by_cases e1 : b = g
    · subst e1
      rw [cell_of_heap h1] at hc
      rw [cell_of_heap h2, h4 i fun hzi => hz i hzi hi]; exact hc
    · rw [World.cell?_of_block (w := w) (h.other b e1)]; exact hc
  · refine h.other b ?_
    rintro rfl; exact hX hL

/-- keeping through a write: old blocks by leave, new ones freely -/
theorem Wrote.keep0 {Z : Nat → Prop} {g : Nat} {w1 : World} {W0 : World} {mu : Nat → Nat → Prop} (h : Wrote Z g w w1) (hk : Keep mu W0 w) (hm : W0.heap.size ≤ g ∨ ∀ i, Z i → mu g i) : Keep mu W0 w1 := by
  rcases hm with hm | hm
  · obtain ⟨c, c', e, fz, h1, h2, h3, h4⟩ := h.cells
    refine ⟨h.os.trans hk.os, h.tape.trans hk.tape, h.output.trans hk.output, by rw [h.size]; exact hk.size, fun b hb hn => (h.other b (by omega)).trans (hk.block b hb hn), fun b c1 e1 fz1 hb => ?_⟩
    obtain ⟨c2, k1, k2, k3⟩ := hk.cells b c1 e1 fz1 hb
    exact ⟨c2, by rw [h.other b (by have := heap_lt hb; omega)]; exact k1, k2, k3⟩
  · exact hk.trans (h.keep hm)

end
end Go.SX

-- SX: Sim15
namespace Go.SX
open Go.RowKit
set_option linter.unusedVariables false
set_option linter.unusedSimpArgs false

section
variable {F : Frm} {G G' : Gh} {s s' s1 : St} {a : Act} {w w' : World} {T : Tab} {cons : List Con}

theorem alloc_good (hT : TabOk F.P T) (h : Sim F G s a w) {o : Oper} {t d : Nat} {τ : Ty} (ho : o.op = .alloc t) (hd : o.dst = some d) (hτ : T.ty t = some τ) {v : V}
    (hp : Path (.ob d fun x => match x with
      | .none => .setOb d (zeroOb τ) (.ok (.ptr d τ []))
      | _ => .fail) s v s') : Good F o a w s' v := by
  simp only [Path] at hp
  split at hp
  · rename_i hno
    obtain ⟨rfl, rfl⟩ := hp
    have hz := run_zeroValue (F := F) (w := w) (hT t _ hτ)
    have hrun : (execOp a.eval o).run F.P w = .ok (.value (.pointer (some ⟨w.heap.size, 0, none⟩))) (w.alloc (.cells (zeroCs τ).toArray t)) := by
      simp [execOp, ho, Instr.alloc, hz, newVar, newRow, zero_cells]
    unfold zeroOb
    split
    · rename_i _ e u
      have he : t = e := (hT t _ hτ).und.1
      subst he
      obtain ⟨G', hs⟩ := h.newVob (d := d) (τ := .bld t u) (x := ([] : List Int)) (cs := zeroCs (.bld t u)) t hno 0 (fun w1 G1 => zero_rep (w := w1) G1 (.bld t u)) (fun Q hQ v hv => by
        simp only [zeroCs] at hv
        cases hv
        exact hQ _ _ _) ⟨rfl, rfl, rfl, rfl, .inl rfl⟩
      refine .value hrun ⟨G', ?_⟩
      rw [hd]; exact hs
    · obtain ⟨G', hs⟩ := h.newVar (d := d) t hno (zero_rep (w := w) G.im τ)
      refine .value hrun ⟨G', ?_⟩
      rw [hd]; exact hs
  · exact hp.elim

theorem box_good (hT : TabOk F.P T) (h : Sim F G s a w) {o : Oper} {t d : Nat} {τ : Ty} {x : Operand} (ho : o.op = .box t x) (hd : o.dst = some d) (hτ : T.ty t = some τ) {v : V}
    (hp : Path (vget x fun v => keepD τ v x fun y => .ob d fun x => match x with
      | .none => .setOb d (.var τ y) (.ok (.ptr d τ []))
      | _ => .fail) s v s') : Good F o a w s' v := by
  obtain ⟨vx, tx, hx, hp1⟩ := vget_path h hp
  clear hp
  obtain ⟨y, G1, s1, hk, hy, hp2⟩ := keepD_path h hx hp1
  clear hp1
  simp only [Path] at hp2
  split at hp2
  · rename_i hno
    obtain ⟨rfl, rfl⟩ := hp2
    obtain ⟨G', hs⟩ := hk.sim.newVar (d := d) t hno (rep_of_V hy)
    have hrun : (execOp a.eval o).run F.P w = .ok (.value (.pointer (some ⟨w.heap.size, 0, none⟩))) (w.alloc (.cells (a.eval x).cells t)) := by
      simp [execOp, ho, Instr.box, newVar, newRow]
    refine .value hrun ⟨G', ?_⟩
    rw [hd]
    simp only [Array.toArray_toList] at hs
    exact hs
  · exact hp2.elim

theorem range_mod (z : List Value) (hz : 0 < z.length) : ∀ n, (List.range (n * z.length)).map (fun i => z[i % z.length]!) = (List.replicate n z).flatten
  | 0 => by simp
  | n + 1 => by
    rw [Nat.succ_mul, List.range_add, List.map_append, range_mod z hz n, List.replicate_succ', List.flatten_append]
    congr 1
    rw [List.map_map]
    simp only [List.flatten_cons, List.flatten_nil, List.append_nil]
    apply List.ext_getElem
    · simp
    · intro i h1 h2
      simp only [List.getElem_map, List.getElem_range, Function.comp_apply]
      have : (n * z.length + i) % z.length = i := by
        rw [Nat.add_comm, Nat.add_mul_mod_self_right]; exact Nat.mod_eq_of_lt h2
      rw [this]; simp [h2]

theorem zero_cells_range (τ : Ty) (n : Nat) (hp : 0 < τ.size) : (Array.range (n * τ.size)).map (fun i => (zeroCs τ).toArray[i % (zeroCs τ).toArray.size]!) = (List.replicate n (zeroCs τ)).flatten.toArray := by
  have hl := (zero_rep (w := default) (fun _ _ => True) τ).length
  have := range_mod (zeroCs τ) (by omega) n
  rw [hl] at this
  rw [← this]
  apply Array.ext'
  simp only [Array.toList_map, Array.toList_range, List.size_toArray, hl]
  apply List.map_congr_left
  intro i _
  simp

theorem buildSlice_good (hT : TabOk F.P T) (h : Sim F G s a w) {o : Oper} {t n : Nat} {ps : Array (Nat × Operand)} (ho : o.op = .buildSlice t n ps) {v : V} (hp : Path (opBuildSlice T (o.dst.getD 0) t n ps.toList) s v s') : Good F o a w s' v := by
  unfold opBuildSlice at hp
  have eps : (ps.map fun (x : Nat × Operand) => (x.1, a.eval x.2)).toList = ps.toList.map fun p => (p.1, a.eval p.2) := by simp
  split at hp
  · rename_i τ hτ
    split at hp
    · rename_i hsp
      have hpos := szPos_pos hsp
      split at hp
      · rename_i hlim
        simp only [Bool.and_eq_true] at hlim
        have l1 := Nat.le_of_ble_eq_true hlim.1
        have l2 := Nat.le_of_ble_eq_true hlim.2
        have hz : All2 (Rep w G.im τ) (List.replicate n τ.dflt) (List.replicate n (zeroCs τ)) := All2.replicate (zero_rep _ _) n
        obtain ⟨l', G1, s1, css1, hk, hr, hlen, hf, hp2⟩ := fill_elems hT ps.toList s G _ _ _ v h hz hp
        obtain ⟨hfr, rfl, rfl⟩ := hp2
        obtain ⟨e, hu, he⟩ := und_slice hT hτ
        have hsz := run_sizeOf' (hT _ _ he) w
        have hzv := run_zeroValue (F := F) (w := w) (hT _ _ he)
        have hln : l'.length = n := by rw [hlen]; simp
        have hfl := flatten_len hr.lens
        have hbig : n * τ.size ≤ 1000 * 1000 := Nat.mul_le_mul l1 l2
        have hrun : (Instr.buildSlice t n (ps.map fun (x : Nat × Operand) => (x.1, a.eval x.2))).run F.P w = .ok (.slice (some ⟨w.heap.size, 0, none⟩) n n) (w.alloc (.cells css1.flatten.toArray e)) := by
          have hcap : ¬ (n * τ.size > 2 ^ 24) := by omega
          by_cases hn : n = 0
          · subst hn
            have hf' := hf
            simp only [List.replicate_zero, List.flatten_nil] at hf'
            have hr0 : (Array.range 0 : Array Nat) = #[] := by decide
            simp only [Instr.buildSlice, Sem.run_bind, run_underlying hu, Result.andThen_ok, hsz, Nat.zero_mul, Sem.run_pure, Nat.not_lt_zero, gt_iff_lt, if_true, if_false, hr0, Array.map_empty, Nat.zero_le]
            rw [eps, hf']
            simp [newRow]
          · have hne : ¬ (n * τ.size = 0) := by
              intro e0; rcases Nat.mul_eq_zero.1 e0 with e0 | e0 <;> omega
            simp only [Instr.buildSlice, Sem.run_bind, run_underlying hu, Result.andThen_ok, hsz, if_neg hcap, if_neg hne, hzv, zero_cells, Sem.run_pure, zero_cells_range τ n hpos]
            rw [eps, hf]
            simp [newRow]
        have htake : List.take (n * τ.size) css1.flatten = css1.flatten := by
          apply List.take_of_length_le
          rw [hfl, ← hr.length, hln]; exact Nat.le_refl _
        have g := alloc_grows hk.sim (.cells css1.flatten.toArray e)
        obtain ⟨G', hs⟩ := hk.sim.newOwn o.dst (d := o.dst.getD 0) (fun t ht => by rw [ht]; rfl) (l := l') (css := css1) (cap := n) (ap := true) (fz := (0, 0)) hfr g (heap_alloc_new w _) hr (by omega) (by unfold maxLen; omega) (by simp [hfl, ← hr.length, hln, htake]) (by rw [hln, List.toList_toArray]; exact htake) (fun i _ hi => by omega) (fun _ => rfl)
        refine .value (u := .slice (some ⟨w.heap.size, 0, none⟩) n n) (w' := w.alloc (.cells css1.flatten.toArray e)) ?_ ⟨G', by rw [hln] at hs; exact hs⟩
        simp only [execOp, ho, Sem.run_bind, hrun, Result.andThen_ok, Sem.run_pure]
      · exact hp.elim
    · exact hp.elim
  · exact hp.elim
end
end Go.SX

-- SX: Sim16
namespace Go.SX
open Go.RowKit Go.Lib
set_option linter.unusedVariables false
set_option linter.unusedSimpArgs false

section
variable {F : Frm} {G G' : Gh} {s s' s1 : St} {a : Act} {w w' : World} {T : Tab} {cons : List Con}

theorem take_rep {α : Type} (z : List α) {n c : Nat} (h : n ≤ c) : ((List.replicate c z).flatten).take (n * z.length) = (List.replicate n z).flatten := by
  have : List.replicate c z = List.replicate n z ++ List.replicate (c - n) z := by
    rw [List.replicate_append_replicate]; congr 1; omega
  rw [this, List.flatten_append]
  exact List.take_left' (by simp [List.length_flatten])

theorem makeSlice_good (hT : TabOk F.P T) (h : Sim F G s a w) {o : Oper} {t : Nat} {l c : Operand} (ho : o.op = .makeSlice t l c) {v : V} (hp : Path (opMakeSlice T (o.dst.getD 0) t l c) s v s') : Good F o a w s' v := by
  unfold opMakeSlice at hp
  split at hp
  · rename_i τ hτ
    split at hp
    · rename_i hsp
      have hpos := szPos_pos hsp
      obtain ⟨vl, tl, hl, hp1⟩ := vget_path h hp
      clear hp
      obtain ⟨vc, tc, hc, hp2⟩ := vget_path h hp1
      clear hp1
      obtain ⟨kl, n, e1, hp3⟩ := asI_path hp2
      clear hp2
      subst e1
      obtain ⟨kc, m, e2, hp4⟩ := asI_path hp3
      clear hp3
      subst e2
      obtain ⟨el, wl⟩ := dat_int hl.rel
      obtain ⟨ec, wc⟩ := dat_int hc.rel
      obtain ⟨hin, h0, hfr, rfl, rfl⟩ := hp4
      simp only [inp, Bool.and_eq_true, decide_eq_true_eq] at hin
      obtain ⟨n0, nm, mB⟩ := hin
      obtain ⟨e, i, hu, he, hi, hby⟩ : ∃ e i, F.P.underlying t = some (.slice e) ∧ T.ty e = some τ ∧ F.P.info? e = some i ∧ i.bytes ≤ 128 := (hT _ _ hτ).und
      obtain ⟨i', hi', hisz, hiz⟩ := (hT _ _ he).info
      rw [hi] at hi'; cases hi'
      have hbb : (i.bytes : Int) * m ≤ 281474976710656 := by
        have : (i.bytes : Int) * m ≤ 128 * m := Int.mul_le_mul_of_nonneg_right (by omega) (by omega)
        omega
      have hrun0 := run_make (P := F.P) w t e i _ hu hi hiz kl kc n m n0 nm hbb (by omega)
      have hmade : madeCells (valOf τ (zeroCs τ)).cells (m.toNat * i.size) = (List.replicate m.toNat (zeroCs τ)).flatten.toArray := by
        rw [zero_cells, hisz]; exact zero_cells_range τ m.toNat hpos
      rw [hmade] at hrun0
      have hzl := (zero_rep (w := w) G.im τ).length
      have hln : (zeros τ n).length = n.toNat := by simp [zeros]
      have hall : All2 (Rep w G.im τ) (zeros τ n) (List.replicate n.toNat (zeroCs τ)) := All2.replicate (zero_rep _ _) _
      have hrun : (execOp a.eval o).run F.P w = .ok (.value (.slice (some ⟨w.heap.size, 0, none⟩) n.toNat m.toNat)) (w.alloc (.cells (List.replicate m.toNat (zeroCs τ)).flatten.toArray e)) := by
        simp [execOp, ho, el, ec, hrun0]
      have g := alloc_grows h (.cells (List.replicate m.toNat (zeroCs τ)).flatten.toArray e)
      obtain ⟨G', hs⟩ := h.newOwn o.dst (d := o.dst.getD 0) (fun t ht => by rw [ht]; rfl) (l := zeros τ n) (css := List.replicate n.toNat (zeroCs τ)) (cap := m.toNat) (ap := true) (fz := (0, 0)) hfr g (heap_alloc_new w _) hall (by rw [hln]; omega) (by unfold maxLen; omega) (by simp [List.length_flatten, hzl]) (by
        rw [hln, List.toList_toArray, ← hzl]; exact take_rep _ (by omega)) (fun i _ hi => by omega) (fun _ => rfl)
      rw [hln] at hs
      exact .value hrun ⟨G', hs⟩
    · exact hp.elim
  · exact hp.elim

theorem flatten_ones {α β : Type} (f : α → β) : ∀ l : List α, (l.map fun c => [f c]).flatten = l.map f
  | [] => rfl
  | c :: l => by rw [List.map_cons, List.flatten_cons, flatten_ones f l]; rfl

theorem bytes_all (im : Nat → Nat → Prop) (b : ByteArray) : ∀ l : List UInt8, All2 (Rep w im (.int .u8)) (l.map fun c => (c.toNat : Int)) (l.map fun c => [Value.int .u8 c.toNat])
  | [] => trivial
  | c :: l => by
    refine ⟨⟨rfl, ?_⟩, bytes_all im b l⟩
    show IntKind.u8.wrap (c.toNat : Int) = (c.toNat : Int)
    rw [wrap_range]
    have := UInt8.toNat_lt c
    have h1 : IntKind.u8.min = 0 := by decide
    have h2 : IntKind.u8.max = 255 := by decide
    rw [h1, h2]; omega

theorem bytesWorld_drawn (w : World) (e : TypeId) (s : ByteArray) : (bytesWorld w e s).os = w.os ∧ (bytesWorld w e s).tape = w.tape ∧ (bytesWorld w e s).output = w.output := by
  simp [bytesWorld, World.freeze, World.alloc, World.drew, -World.alloc_eq, -World.drew_eq]

theorem bytes_grows (h : Sim F G s a w) (e : TypeId) (b : ByteArray) : Grows s G G w (bytesWorld w e b) := by
  obtain ⟨h1, h2, h3⟩ := bytesWorld_drawn w e b
  refine ⟨h1, h2, h3, by rw [bytesWorld_size]; omega, fun j hj => bytesWorld_at_old w e b j hj, fun _ _ h => h, fun b' i hi => ⟨.inl hi, ?_⟩, fun _ _ => rfl, fun b' L hL => ?_, rfl, fun _ _ => rfl⟩
  · have := h.imlt b' i hi; rw [bytesWorld_size]; omega
  · have := (h.owlt b' L hL).2; rw [bytesWorld_size]; omega

theorem strBytes_good (hT : TabOk F.P T) (h : Sim F G s a w) {o : Oper} {src dst : Nat} {x : Operand} (ho : o.op = .convert src dst x) {v : V} (hs : T.ty src = some .str) (hd : T.ty dst = some (.slice (.int .u8)))
    (hp : Path (opConvert T (o.dst.getD 0) src dst x) s v s') : Good F o a w s' v := by
  unfold opConvert at hp
  obtain ⟨vx, tx, hx, hp1⟩ := vget_path h hp
  clear hp
  simp only [hs, hd] at hp1
  split at hp1
  · rename_i l
    obtain ⟨hc, hfr, rfl, rfl⟩ := hp1
    obtain ⟨b, e, rfl, hmx⟩ := dat_str hx.rel
    obtain ⟨el, h1, he⟩ := und_slice hT hd
    have h2 : F.P.underlying src = some .string := (hT _ _ hs).und
    have h3 : F.P.underlying el = some (.int .u8) := (hT _ _ he).und
    have hrun0 := Go.Lib.run_convert_string_bytes (P := F.P) w src dst el b h2 h1 h3
    have hrun : (execOp a.eval o).run F.P w = .ok (.value (.slice (some ⟨w.heap.size, 0, none⟩) b.size (grownCap w b.size 0 el))) (bytesWorld w el b) := by
      simp [execOp, ho, e, hrun0]
    have hge := grownCap_ge w b.size 0 el
    have hcm := grownCap_le_maxLen w b.size 0 el hmx
    have hsz : (bytesCells w el b).size = grownCap w b.size 0 el := by
      simp [bytesCells]; have : b.data.size = b.size := rfl; omega
    have hall : All2 (Rep w G.im (.int .u8)) (bytesD b) (b.data.toList.map fun c => [Value.int .u8 (c.toNat : Int)]) := bytes_all (w := w) G.im b b.data.toList
    obtain ⟨G', hs'⟩ := h.newOwn o.dst (d := o.dst.getD 0) (fun t ht => by rw [ht]; rfl) (τ := .int .u8) (l := bytesD b) (css := b.data.toList.map fun c => [Value.int .u8 (c.toNat : Int)]) (cap := grownCap w b.size 0 el) (ap := false) hfr (bytes_grows h el b) (bytesWorld_at_new w el b) hall (by rw [bytesD_len]; exact hge) hcm (by rw [hsz]; simp [Ty.size]) (by
      rw [bytesD_len]
      have := flatten_ones (fun c : UInt8 => Value.int .u8 (c.toNat : Int)) b.data.toList
      rw [this]
      have hl : b.size = b.data.toList.length := rfl
      simp only [bytesCells, Array.toList_append, Ty.size, Nat.mul_one]
      rw [hl]
      rw [Array.toList_map]; exact List.take_left' (by rw [List.length_map])) (fun i hi hi2 => by rw [hsz] at hi2; simp [Ty.size] at hi; omega) (fun h => by cases h)
    rw [bytesD_len] at hs'
    exact .value hrun ⟨G', hs'⟩
  · exact hp1.elim

end
end Go.SX

-- SX: Sim17
namespace Go.SX
open Go.RowKit
set_option linter.unusedVariables false
set_option linter.unusedSimpArgs false

section
variable {F : Frm} {G G' : Gh} {s s' s1 : St} {a : Act} {w w' w1 : World} {T : Tab} {cons : List Con}

/-- an object's cells are written -/
theorem Sim.writeOb (h : Sim F G s a w) {o b off : Nat} {τ : Ty} {x' : τ.D} {cs' : List Value} {Z : Nat → Prop} (hsite : G.site o = some (b, off, τ)) {y : τ.D} (hob : s.ob o = .var τ y)
    (hw : Wrote Z b w w1) (hZ : ∀ i, Z i → off ≤ i ∧ i < off + τ.size) (hr : Rep w G.im τ x' cs') (hc : ∀ j, j < τ.size → w1.cell? ⟨b, off + j, none⟩ = cs'[j]?) : Sim F G (s.setOb o (.var τ x')) a w1 := by
  obtain ⟨b0, off0, e0, cs, c0, e1, fz0, q1, q2, q3, q4⟩ := h.vars o τ y hob
  rw [hsite] at e0; cases e0
  obtain ⟨m1, m2, m3⟩ := q4 rfl
  have how := h.sow o b off τ hsite
  have hZi : ∀ i, Z i → ¬ G.im b i := fun i hi => by
    have := hZ i hi
    have := m2 (i - off) (by omega)
    rwa [show off + (i - off) = i by omega] at this
  have st := hw.stays hZi
  have ns : ∀ L, ¬ (G.ow b = some L) := fun L hL => by rw [how] at hL; cases hL
  have hol : o < s.objs.length := by
    rcases Nat.lt_or_ge o s.objs.length with hl | hl
    · exact hl
    · simp only [St.ob, List.getD_eq_getElem?_getD, List.getElem?_eq_none hl] at hob; cases hob
  have obs : ∀ o' b' off' τ' z wr, o ≠ o' → G.site o' = some (b', off', τ') → ObR F G w b' off' τ' z wr → ObR F G w1 b' off' τ' z wr := by
    rintro o' b' off' τ' z wr hne hs' ⟨cz, c, e, fz, k1, k2, k3, k4⟩
    by_cases hb : b' = b
    · subst hb
      obtain ⟨cc, c', ee, ff, n1, n2, n3, n4⟩ := hw.cells
      rw [k2] at n1; cases n1
      refine ⟨cz, c', e, fz, k1.mono st.cell st.im, n2, fun j hj => ?_, k4⟩
      rw [n4 _ fun hz => ?_]
      · exact k3 j hj
      · have := hZ _ hz
        rcases h.apart o o' _ _ _ _ _ _ hne hsite hs' with hd | hd | hd
        · exact hd rfl
        · omega
        · omega
    · exact ⟨cz, c, e, fz, k1.mono st.cell st.im, by rw [hw.other b' hb]; exact k2, k3, k4⟩
  refine ⟨h.defers, h.tmps, h.env, by simp [St.setOb, h.obl], h.usl, hw.keep0 h.keep (m3.imp id fun hm i hi => ?_), fun t => (h.vals t).mono st (fun i _ => ns _) fun _ _ => rfl, ?_, ?_, ?_, ?_, h.apart, h.sow, fun b i hi => by rw [hw.size]; exact h.imlt b i hi, h.imb, h.im0, fun b L hL => by rw [hw.size]; exact h.owlt b L hL, h.used⟩
  · have := hZ i hi
    have := hm (i - off) (by omega)
    rwa [show off + (i - off) = i by omega] at this
  · intro o' τ' z hz
    by_cases e : o = o'
    · subst e
      rw [St.ob_setOb_same _ _ _ hol] at hz; cases hz
      obtain ⟨cc, c', ee, ff, n1, n2, n3, n4⟩ := hw.cells
      rw [q2] at n1; cases n1
      refine ⟨b, off, hsite, cs', c', _, _, hr.mono st.cell st.im, n2, fun j hj => ?_, fun _ => ⟨m1, m2, m3⟩⟩
      rw [← cell_of_heap n2]; exact hc j hj
    · rw [St.ob_setOb_ne _ _ _ _ e] at hz
      obtain ⟨b', off', k1, k2⟩ := h.vars o' τ' z hz
      exact ⟨b', off', k1, obs o' _ _ _ _ _ e k1 k2⟩
  · intro o' τ' z hz
    by_cases e : o = o'
    · subst e; rw [St.ob_setOb_same _ _ _ hol] at hz; cases hz
    · rw [St.ob_setOb_ne _ _ _ _ e] at hz
      obtain ⟨b', off', k1, k2⟩ := h.ros o' τ' z hz
      exact ⟨b', off', k1, obs o' _ _ _ _ _ e k1 k2⟩
  · intro o' τ' z k hz
    by_cases e : o = o'
    · subst e; rw [St.ob_setOb_same _ _ _ hol] at hz; cases hz
    · rw [St.ob_setOb_ne _ _ _ _ e] at hz
      obtain ⟨b', off', k1, k2, k3⟩ := h.vobs o' τ' z k hz
      refine ⟨b', off', k1, k2.mono st (fun _ => ns _) (fun c e' fz hcell => ?_) (fun _ _ h => h), k3⟩
      by_cases hb : b' = b
      · subst hb
        obtain ⟨cc, c', ee, ff, n1, n2, n3, n4⟩ := hw.cells
        rw [hcell] at n1; cases n1
        refine ⟨c', n2, n3, fun j hj => n4 _ fun hz => ?_⟩
        have := hZ _ hz
        rcases h.apart o o' _ _ _ _ _ _ e hsite k1 with hd | hd | hd
        · exact hd rfl
        · omega
        · omega
      · exact ⟨c, by rw [hw.other b' hb]; exact hcell, rfl, fun _ _ => rfl⟩
  · refine ⟨fun o' ho' => ?_, fun o' x hx => ?_⟩
    · by_cases e : o = o'
      · subst e; rw [St.ob_setOb_same _ _ _ hol] at ho'; cases ho'
      · rw [St.ob_setOb_ne _ _ _ _ e] at ho'; exact h.dead.1 o' ho'
    · obtain ⟨k1, k2, k3, k4⟩ := h.dead.2 o' x hx
      refine ⟨k1, k2, ?_, k4⟩
      by_cases e : o = o'
      · subst e; rw [St.ob_setOb_same _ _ _ hol]; intro e; cases e
      · rw [St.ob_setOb_ne _ _ _ _ e]; exact k3

/-- a datum goes where a pointer leads -/
theorem storeD_path (h : Sim F G s a w) {v : V} {u : Value} {t : Nat} (hrel : RelV F G w t v u) {τ : Ty} {z : τ.D} {k : Cmd} {r : V} (hp : Path (storeD τ v z k) s r s') {cz : List Value} (hz : Rep w G.im τ z cz) :
    ∃ b i o τo x', u = .pointer (some ⟨b, i, none⟩) ∧ w.there b i τ.size ∧ Sim F G (s.setOb o (.var τo x')) a (w.setCells b i cz) ∧ (∃ x, s.ob o = .var τo x) ∧ (∀ b i, G.im b i → ¬ False) ∧ Path k (s.setOb o (.var τo x')) r s' := by
  unfold storeD at hp
  split at hp
  · rename_i o τo p
    obtain ⟨b, off, hsite, hok, rfl⟩ := hrel
    simp only [Path] at hp
    split at hp
    · rename_i τ1 y hob
      split at hp
      · rename_i y' hy
        obtain ⟨e1, e2⟩ := cast_some hy
        subst e1; simp only at e2; subst e2
        split at hp
        · rename_i x' hx'
          obtain ⟨σ, y2, t1, t2, t3⟩ := setP_rep (w := w) (im := G.im) p _ _ _ hx'
          obtain ⟨e3, e4⟩ := cast_some t2
          subst e3; simp only at e4; subst e4
          obtain ⟨b0, off0, e0, cs, c0, e1, fz0, q1, q2, q3, q4⟩ := h.vars o _ _ hob
          rw [hsite] at e0; cases e0
          obtain ⟨m1, m2, m3⟩ := q4 rfl
          obtain ⟨k1, k2⟩ := t3 cs hok q1
          have hcl := q1.length
          have hzl := hz.length
          rw [hcl] at k1
          have hnew := k2 cz hz
          have hnl := hnew.length
          have hcs : ∀ j (hj : j < τ1.size), ∃ hlt : off + j < c0.size, True := fun j hj => by
            have := q3 j hj
            rcases Nat.lt_or_ge (off + j) c0.size with hl | hl
            · exact ⟨hl, trivial⟩
            · rw [Array.getElem?_eq_none hl, List.getElem?_eq_getElem (by omega)] at this; cases this
          refine ⟨b, off + offP p τ1, o, τ1, x', rfl, fun j hj => ?_, ?_, ⟨_, hob⟩, fun _ _ _ h => h, hp⟩
          · obtain ⟨hlt, _⟩ := hcs (offP p τ1 + j) (by omega)
            have := m1 (offP p τ1 + j) (by omega)
            rw [Nat.add_assoc]
            refine ⟨by rw [cell_of_heap q2]; simp [hlt], ?_⟩
            simp only [World.frozen?, q2]
            simpa using this
          · have hw := setCells_wrote (o := off + offP p τ1) (vs := cz) q2
            refine h.writeOb hsite hob hw (fun i hi => by omega) hnew fun j hj => ?_
            obtain ⟨c', n1, n2, n3, n4⟩ := setCells_heap cz (off + offP p τ1) w c0 q2
            rw [cell_of_heap n1]
            by_cases c1 : j < offP p τ1
            · rw [n3 _ (.inl (by omega)), q3 j hj, List.append_assoc, List.getElem?_append_left (by simp; omega), List.getElem?_take, if_pos c1]
            · by_cases c2 : j < offP p τ1 + cz.length
              · obtain ⟨hlt, _⟩ := hcs j hj
                have := n4 (j - offP p τ1) (by omega) (by omega)
                rw [show off + offP p τ1 + (j - offP p τ1) = off + j by omega] at this
                rw [this, List.append_assoc, List.getElem?_append_right (by simp; omega), List.getElem?_append_left (by simp; omega)]
                congr 1; simp; omega
              · rw [n3 _ (.inr (by omega)), q3 j hj, List.getElem?_append_right (by simp; omega), List.getElem?_drop]
                congr 1; simp; omega
        · exact hp.elim
      · exact hp.elim
    · exact hp.elim
  · exact hp.elim

/-- a slot's block is written -/
theorem Sim.writeSlot (h : Sim F G s a w) {t0 i0 g : Nat} {Z : Nat → Prop} (hi0 : i0 < OBJ) (how : G.ow g = some (t0, i0)) (hw : Wrote Z g w w1) (hZ : ∀ i, Z i → ¬ G.im g i) {v : V} (hv : RelV F G w1 t0 v (a.tmps.getD t0 undef)) (hn : ∀ n, names n v → s.used.getD n true = true) : Sim F G (s.put t0 v) a w1 := by
  have st := hw.stays hZ
  have obs : ∀ o' b' off' τ' z wr, G.site o' = some (b', off', τ') → ObR F G w b' off' τ' z wr → ObR F G w1 b' off' τ' z wr := by
    rintro o' b' off' τ' z wr hs' ⟨cz, c, e, fz, k1, k2, k3, k4⟩
    have hb : b' ≠ g := by
      rintro rfl
      rw [h.sow o' _ _ _ hs'] at how; cases how
    exact ⟨cz, c, e, fz, k1.mono st.cell st.im, by rw [hw.other b' hb]; exact k2, k3, k4⟩
  refine ⟨h.defers, h.tmps, by simp [h.env], h.obl, h.usl, hw.keep0 h.keep (.inl ((h.owlt g _ how).1 hi0)), ?_, fun o τ x hx => ?_, fun o τ x hx => ?_, fun o τ x k hx => ?_, h.dead, h.apart, h.sow, fun b i hi => by rw [hw.size]; exact h.imlt b i hi, h.imb, h.im0, fun b L hL => by rw [hw.size]; exact h.owlt b L hL, ?_⟩
  · intro t
    by_cases e : t = t0
    · subst e
      by_cases ht : t < s.env.length
      · rw [St.get_put_same _ _ _ ht]; exact hv
      · rw [St.get_put_out _ _ _ ht]
        have : s.get t = .undef := by simp only [St.get, List.getD_eq_getElem?_getD]; rw [List.getElem?_eq_none (by omega)]; rfl
        rw [this]; trivial
    · rw [St.get_put_ne _ _ _ _ (Ne.symm e)]
      exact (h.vals t).mono st (fun i _ hi => by rw [how] at hi; cases hi; exact e rfl) fun _ _ => rfl
  · obtain ⟨b, off, h1, h2⟩ := h.vars o τ x hx; exact ⟨b, off, h1, obs o _ _ _ _ _ h1 h2⟩
  · obtain ⟨b, off, h1, h2⟩ := h.ros o τ x hx; exact ⟨b, off, h1, obs o _ _ _ _ _ h1 h2⟩
  · obtain ⟨b, off, h1, h2, h3⟩ := h.vobs o τ x k hx
    refine ⟨b, off, h1, h2.mono0 st (fun j hj => by rw [how] at hj; injection hj with hj; injection hj with e1 e2; omega) (hw.other b ?_) (fun _ h => h), h3⟩
    rintro rfl
    rw [h.sow o _ _ _ h1] at how; cases how
  · intro n hu t' hn'
    by_cases ht : t0 < s.env.length
    · by_cases e : t0 = t'
      · subst e; rw [St.get_put_same _ _ _ ht] at hn'; have := hn n hn'; rw [show s.used.getD n true = false from hu] at this; cases this
      · rw [St.get_put_ne _ _ _ _ e] at hn'; exact h.used n hu t' hn'
    · rw [St.get_put_out _ _ _ ht] at hn'; exact h.used n hu t' hn'

theorem names_own {τ : Ty} {l : List τ.D} {wf ap : Bool} {ver n : Nat} (h : names n (.own τ l wf ap ver)) : ver = n := h

theorem store_good (hT : TabOk F.P T) (h : Sim F G s a w) {o : Oper} {t : Nat} {p x : Operand} (ho : o.op = .store t p x) {v : V} (hp : Path (opStore T t p x) s v s') : Good F o a w s' v := by
  unfold opStore at hp
  split at hp
  · rename_i τ hτ
    obtain ⟨vp, tp, hpt, hp1⟩ := vget_path h hp
    clear hp
    obtain ⟨vx, tx, hx, hp2⟩ := vget_path h hp1
    clear hp1
    have ht := hT t _ hτ
    split at hp2
    · rename_i o' τo' p'
      obtain ⟨z, G1, s1, hk, hz, hp3⟩ := keepD_path h hx hp2
      clear hp2
      obtain ⟨cz, hcz, ez⟩ := hz
      have hrel : RelV F G1 w tp (.ptr o' τo' p') (a.eval p) := by
        obtain ⟨b, off, k1, k2⟩ := (hpt.rel : RelV F G w tp (.ptr o' τo' p') (a.eval p))
        exact ⟨b, off, by rw [hk.site]; exact k1, k2⟩
      obtain ⟨b, i, o2, τo, x', e1, e2, e3, _, _, rfl, rfl⟩ := storeD_path hk.sim hrel hp3 hcz
      have hrun := run_storeAt ht hcz e2
      refine .skip (w' := w.setCells b i cz) ?_ ⟨G1, e3.putd o.dst .undef _ (fun _ _ => trivial) fun n hn => hn.elim⟩
      simp only [execOp, ho, e1, ez, Sem.run_bind, hrun, Result.andThen_ok, Sem.run_pure]
    · rename_i s0 ver τs i p'
      obtain ⟨z, G1, s1, hk, hz, hp3⟩ := keepD_path h hx hp2
      clear hp2
      obtain ⟨cz, hcz, ez⟩ := hz
      obtain ⟨b, n, cap, k1, k2, k3, k4⟩ := (hpt.rel : RelV F G w tp (.elp s0 ver τs i p') (a.eval p))
      obtain ⟨τ', l, wf, ap, hs, hp4⟩ := slotOf_path hp3
      clear hp3
      split at hp4
      · rename_i l' hl'
        obtain ⟨e1, e2⟩ := castL_some hl'
        subst e1; simp only at e2; subst e2
        split at hp4
        · rename_i y' hy'
          obtain ⟨rfl, rfl⟩ := hp4
          have hsim := hk.sim
          obtain ⟨c1, c2⟩ := al_content hsim hs
          rw [hk.hd, k1] at c1
          rcases c2 with ⟨c2, _⟩ | ⟨g, cap', cur, e, fz, css, r1, r2, r3, r4, r5, r6, r7, r8, r9, r10, r11, r12, r13⟩
          · rw [c1] at c2; cases c2
          · rw [c1] at r1
            cases r1
            obtain ⟨σ, y2, t1, t2, t3⟩ := setP_rep (w := w) (im := G1.im) p' _ _ _ hy'
            obtain ⟨e3, e4⟩ := cast_some t2
            subst e3; simp only at e4; subst e4
            have hr0 := rd_rep r8 k2
            obtain ⟨u1, u2⟩ := t3 _ k3 hr0
            have hml := hr0.length
            rw [hml] at u1
            have hnew := u2 cz hcz
            have hzl := hcz.length
            have hfl := flatten_len r8.lens
            have hcl : css.length = l.length := r8.length.symm
            have hbig : i * τ'.size + τ'.size ≤ l.length * τ'.size := by
              rw [← Nat.succ_mul]; exact Nat.mul_le_mul_right _ k2
            have hcapb : l.length * τ'.size ≤ cap * τ'.size := Nat.mul_le_mul_right _ r5
            have hth : w.there b (i * τ'.size + offP p' τ') τ.size := fun j hj => by
              refine ⟨by rw [cell_of_heap r4]; rw [Array.getElem?_eq_getElem (by omega)]; rfl, ?_⟩
              have := r10 (i * τ'.size + offP p' τ' + j) (by omega)
              simp only [World.frozen?, r4]
              simpa using this
            have hrun := run_storeAt ht hcz hth
            have hw := setCells_wrote (o := i * τ'.size + offP p' τ') (vs := cz) r4
            obtain ⟨c', n1, n2, n3, n4⟩ := setCells_heap cz (i * τ'.size + offP p' τ') w cur r4
            have st := hw.stays (G := G1) fun j _ => r13 rfl j
            have hown : OwnR (w.setCells b (i * τ'.size + offP p' τ') cz) F.W0.heap.size G1.im G1.ow (s0, 0) τ' (upd l (i : Nat) y') true ap (.slice (some ⟨b, 0, none⟩) l.length cap) := by
              have hul : (upd l (i : Nat) y').length = l.length := by simp [upd]
              refine .inr ⟨b, cap, c', e, fz, css.set i _, by rw [hul], r2, r3, n1, by rw [hul]; exact r5, r6, by rw [n2]; exact r7, (r8.set i hnew).mono fun _ _ hr => hr.mono st.cell st.im, ?_, r10, r11, fun j hj => r13 rfl j, fun _ => r13 rfl⟩
              rw [hul, flatten_set r8.lens i _ hnew.length (by omega), splice_splice (by rw [hfl, hcl]; exact hbig) u1]
              apply List.ext_getElem?
              intro j
              have hcurl : ∀ j, j < l.length * τ'.size → cur[j]? = css.flatten[j]? := fun j hj => by
                rw [← r9, List.getElem?_take, if_pos hj]; simp
              by_cases c0 : j < l.length * τ'.size
              · rw [List.getElem?_take, if_pos c0, Array.getElem?_toList]
                by_cases c1 : j < i * τ'.size + offP p' τ'
                · rw [n3 _ (.inl c1), hcurl j c0, List.append_assoc, List.getElem?_append_left (by simp only [List.length_append, List.length_take, List.length_drop, hfl, hcl]; omega), List.getElem?_take, if_pos c1]
                · by_cases c2 : j < i * τ'.size + offP p' τ' + cz.length
                  · have := n4 (j - (i * τ'.size + offP p' τ')) (by omega) (by omega)
                    rw [show i * τ'.size + offP p' τ' + (j - (i * τ'.size + offP p' τ')) = j by omega] at this
                    rw [this, List.append_assoc, List.getElem?_append_right (by simp only [List.length_append, List.length_take, List.length_drop, hfl, hcl]; omega), List.getElem?_append_left (by simp only [List.length_append, List.length_take, List.length_drop, hfl, hcl]; omega)]
                    congr 1; simp only [List.length_append, List.length_take, List.length_drop, hfl, hcl]; omega
                  · rw [n3 _ (.inr (by omega)), hcurl j c0, List.getElem?_append_right (by simp only [List.length_append, List.length_take, List.length_drop, hfl, hcl]; omega), List.getElem?_drop]
                    congr 1; simp only [List.length_append, List.length_take, List.length_drop, hfl, hcl]; omega
              · rw [List.getElem?_take, if_neg c0, List.getElem?_eq_none]
                simp only [List.length_append, List.length_take, List.length_drop, hfl, hcl]; omega
            have hname : s1.used.getD ver true = true := hsim.named (t := s0) (by rw [hs]; rfl)
            have h2 := hsim.writeSlot (by simp [OBJ]) r3 hw (fun j _ => r13 rfl j) (v := .own τ' (upd l (i : Nat) y') true ap ver) ⟨by rw [c1, hk.hd, k1], by rw [c1]; exact hown⟩ fun m hm => by cases hm; exact hname
            refine .skip (w' := w.setCells b (i * τ'.size + offP p' τ') cz) ?_ ⟨G1, h2.putd o.dst .undef _ (fun _ _ => trivial) fun n hn => hn.elim⟩
            simp only [execOp, ho, k4, ez, Sem.run_bind, hrun, Result.andThen_ok, Sem.run_pure]
        · exact hp4.elim
      · exact hp4.elim
    · exact hp2.elim
  · exact hp.elim

end
end Go.SX

-- SX: Sim18
namespace Go.SX
open Go.RowKit
set_option linter.unusedVariables false
set_option linter.unusedSimpArgs false

section
variable {F : Frm} {G G' : Gh} {s s' s1 : St} {a : Act} {w w' w1 : World} {T : Tab} {cons : List Con}

theorem Sees.src {im : Nat → Nat → Prop} {τ : Ty} {l : List τ.D} {u : Value} {t e : Nat} (hu : F.P.underlying t = some (.slice e)) (h : Sees w im τ l u) :
    ∃ css, All2 (Rep w im τ) l css ∧ Src F.P τ.size t u l.length css.flatten w := by
  obtain ⟨c, cap, rfl, hle, hmx, hl⟩ := h
  cases c with
  | none =>
    rcases hl with rfl | ⟨b, o, e, _⟩
    · exact ⟨[], trivial, Src.ofNil w hu cap⟩
    · cases e
  | some ad =>
    rcases hl with rfl | ⟨b, o, e, css, h1, h2⟩
    · exact ⟨[], trivial, Src.ofSlice w hu ad 0 cap [] (by simp) (fun j u hj => by simp at hj) fun u hu => by cases hu⟩
    · cases e
      refine ⟨css, h1, Src.ofSlice w hu ⟨b, o, none⟩ l.length cap css.flatten (by rw [flatten_len h1.lens, h1.length]) (fun j u hj => by rw [Addr.add_mid]; exact (h2 j u hj).1) fun u hu => ?_⟩
      obtain ⟨c, hc, hu⟩ := List.mem_flatten.1 hu
      obtain ⟨x, _, hx⟩ := h1.mem_right c hc
      exact hx.one u hu

theorem exec_append {o : Oper} {x y : Operand} {t t' : Nat} {u : Value} (ho : o.op = .call { callee := .builtin .append, args := #[x, y], argTypes := #[t, t'] }) (h : (Builtin.append_ #[t, t'] o.type #[a.eval x, a.eval y]).run F.P w = .ok u w') : (execOp a.eval o).run F.P w = .ok (.value u) w' := by
  simp [execOp, ho, resolve, invoke, builtin, h]

theorem zeroCells_size (z : Array Value) (n : Nat) : (Builtin.zeroCells z n).size = n * z.size := by simp [Builtin.zeroCells]

theorem drew_grows (h : Sim F G s a w) (o : Obj) : Grows s G G w (w.drew.alloc o) := by
  have e1 : (w.drew.alloc o).heap.size = w.heap.size + 1 := by simp [World.drew, World.alloc, -World.alloc_eq, -World.drew_eq]
  refine ⟨by simp [World.drew, World.alloc, -World.alloc_eq, -World.drew_eq], by simp [World.drew, World.alloc, -World.alloc_eq, -World.drew_eq], by simp [World.drew, World.alloc, -World.alloc_eq, -World.drew_eq], by omega, fun b hb => ?_, fun _ _ h => h, fun b i hi => ⟨.inl hi, by have := h.imlt b i hi; omega⟩, fun _ _ => rfl, fun b L hL => by have := (h.owlt b L hL).2; omega, rfl, fun _ _ => rfl⟩
  have := Below.heap_alloc w.drew o b hb
  exact this

theorem fits_lt {α β : Type} {l : List α} {m : List β} (h : fits l m = true) : l.length + m.length < 1099511627776 := of_decide_eq_true h

theorem append_new (hT : TabOk F.P T) (h : Sim F G s a w) {o : Oper} {t : Nat} {x y : Operand} (ho : o.op = .call { callee := .builtin .append, args := #[x, y], argTypes := #[t, t] }) {τ : Ty} (hτ : T.ty t = some (.slice τ)) (hpos : 0 < τ.size)
    {base : Option Addr} {cap : Nat} {l xs : List τ.D} {css : List (List Value)} {wf : Bool} (hx : a.eval x = .slice base l.length cap) (hold : (Builtin.firstCells τ.size l.length (.slice base l.length cap)).run F.P w.drew = .ok css.flatten.toArray w.drew)
    (hall : All2 (Rep w G.im τ) l css) (hy : Sees w G.im τ xs (a.eval y)) (hc : cap < l.length + xs.length) (hf : fits l xs = true) (hfr : s.used.getD (o.dst.getD 0) true = false) :
    Good F o a w (s.use (o.dst.getD 0)) (.own τ (app l xs) wf true (o.dst.getD 0)) := by
  obtain ⟨e, i, hu, he, hi, hby⟩ : ∃ e i, F.P.underlying t = some (.slice e) ∧ T.ty e = some τ ∧ F.P.info? e = some i ∧ i.bytes ≤ 128 := (hT _ _ hτ).und
  obtain ⟨i', hi', hisz, hiz⟩ := (hT _ _ he).info
  rw [hi] at hi'; cases hi'
  obtain ⟨csy, hally, hsrc⟩ := hy.src hu
  have hlim := fits_lt hf
  have hfit : Builtin.nextslicecap (l.length + xs.length) cap * i.bytes ≤ 281474976710656 := growslice_fits hc (by
    have : (l.length + xs.length) * i.bytes ≤ (l.length + xs.length) * 128 := Nat.mul_le_mul_left _ hby
    omega)
  rw [← hisz] at hold hsrc
  have hrun := run_append_grow_src (P := F.P) w t t o.type e i _ hu hi hiz base l.length cap css.flatten hold (a.eval y) xs.length csy.flatten hsrc hc (by omega) hfit
  rw [← hx] at hrun
  have hge := grownCap_ge w (l.length + xs.length) cap e
  have hcm := grownCap_le_maxLen w (l.length + xs.length) cap e (by unfold maxLen; omega)
  have hfl := flatten_len (hall.append hally).lens
  have hln : (app l xs).length = l.length + xs.length := by simp [app]
  have hl2 := (hall.append hally).length
  have hzl := (zero_rep (w := w) G.im τ).length
  have hcs : (css ++ csy).length = l.length + xs.length := by rw [← hl2]; simp
  rw [hcs] at hfl
  rw [← List.flatten_append] at hrun
  have hsz : ((css ++ csy).flatten.toArray ++ Builtin.zeroCells (valOf τ (zeroCs τ)).cells (grownCap w (l.length + xs.length) cap e - (l.length + xs.length))).size = grownCap w (l.length + xs.length) cap e * τ.size := by
    rw [Array.size_append, zeroCells_size, zero_cells, List.size_toArray, List.size_toArray, hfl, hzl, ← Nat.add_mul]
    congr 1; omega
  have hh : (w.drew.alloc (.cells ((css ++ csy).flatten.toArray ++ Builtin.zeroCells (valOf τ (zeroCs τ)).cells (grownCap w (l.length + xs.length) cap e - (l.length + xs.length))) e)).heap[w.heap.size]? = some (.cells ((css ++ csy).flatten.toArray ++ Builtin.zeroCells (valOf τ (zeroCs τ)).cells (grownCap w (l.length + xs.length) cap e - (l.length + xs.length))) e) := heap_alloc_new w.drew _
  obtain ⟨G', hs⟩ := h.newOwn o.dst (d := o.dst.getD 0) (fun t ht => by rw [ht]; rfl) (l := app l xs) (css := css ++ csy) (ap := true) (fz := (0, 0)) (cap := grownCap w (l.length + xs.length) cap e) hfr (drew_grows h _) hh (hall.append hally) (by rw [hln]; exact hge) hcm hsz (by
    rw [Array.toList_append, hln]
    exact List.take_left' (by simp only [List.toList_toArray]; exact hfl)) (fun i _ hi => by omega) (fun _ => rfl) wf
  rw [hln] at hs
  exact .value (exec_append ho hrun) ⟨G', hs⟩

theorem append_nothing (hT : TabOk F.P T) (h : Sim F G s a w) {o : Oper} {t : Nat} {x y : Operand} (ho : o.op = .call { callee := .builtin .append, args := #[x, y], argTypes := #[t, t] }) {τ : Ty} (hτ : T.ty t = some (.slice τ))
    (hx : a.eval x = .slice none 0 0) (hy : Sees w G.im τ [] (a.eval y)) (hfr : s.used.getD (o.dst.getD 0) true = false) (wf : Bool) :
    Good F o a w (s.use (o.dst.getD 0)) (.own τ [] wf true (o.dst.getD 0)) := by
  obtain ⟨e, i, hu, he, hi, hby⟩ : ∃ e i, F.P.underlying t = some (.slice e) ∧ T.ty e = some τ ∧ F.P.info? e = some i ∧ i.bytes ≤ 128 := (hT _ _ hτ).und
  obtain ⟨i', hi', hisz, hiz⟩ := (hT _ _ he).info
  rw [hi] at hi'; cases hi'
  obtain ⟨csy, hally, hsrc⟩ := hy.src hu
  have : csy = [] := List.eq_nil_of_length_eq_zero hally.length.symm
  subst this
  rw [← hisz] at hsrc
  have hrun := run_append_nothing (P := F.P) w t t o.type e i hu hi none 0 0 (Nat.le_refl _) (a.eval y) hsrc
  rw [← hx] at hrun
  let v : Value := .slice none 0 0
  let G1 : Gh := { G with hd := fun n => if n = o.dst.getD 0 then v else G.hd n }
  have g1 : Grows s G G1 w w := ⟨rfl, rfl, rfl, Nat.le_refl _, fun _ _ => rfl, fun _ _ h => h, fun b i hi => ⟨.inl hi, h.imlt b i hi⟩, fun _ _ => rfl, fun b L hL => (h.owlt b L hL).2, rfl, fun n hn => if_neg (by rintro rfl; rw [hfr] at hn; cases hn)⟩
  have h1 := (h.grow g1 h.base).use (o.dst.getD 0)
  refine .value (exec_append ho hrun) ⟨G1, ?_⟩
  rw [hx]
  refine h1.putd o.dst _ _ (fun t _ => ⟨by simp [G1, v], .inl ⟨rfl, rfl⟩⟩) fun n hn => by cases hn; exact used_same s _

theorem append_room (hT : TabOk F.P T) (h : Sim F G s a w) {o : Oper} {t : Nat} {x y : Operand} (ho : o.op = .call { callee := .builtin .append, args := #[x, y], argTypes := #[t, t] }) {τ : Ty} (hτ : T.ty t = some (.slice τ)) (hpos : 0 < τ.size)
    {l xs : List τ.D} {t0 ver g cap : Nat} {wf ap : Bool} (hs0 : s.get t0 = .own τ l wf ap ver) {cur : Array Value} {e0 : TypeId} {fz : Nat × Nat} {css : List (List Value)} (hx : a.eval x = .slice (some ⟨g, 0, none⟩) l.length cap) (htm : a.tmps.getD t0 undef = a.eval x)
    (r2 : F.W0.heap.size ≤ g) (r3 : G.ow g = some (t0, 0)) (r4 : w.heap[g]? = some (.cells cur e0 fz)) (r5 : l.length ≤ cap) (r6 : cap ≤ maxLen) (r7 : cur.size = cap * τ.size) (r8 : All2 (Rep w G.im τ) l css) (r9 : cur.toList.take (l.length * τ.size) = css.flatten)
    (r10 : ∀ i, i < cap * τ.size → ¬ (fz.1 ≤ i ∧ i < fz.2)) (r11 : fz = (0, 0)) (r12 : ∀ i, l.length * τ.size ≤ i → ¬ G.im g i) (r13 : wf = true → ∀ i, ¬ G.im g i)
    (hy : Sees w G.im τ xs (a.eval y)) (hc : l.length + xs.length ≤ cap) (hfr : s.used.getD (o.dst.getD 0) true = false) :
    Good F o a w ((s.put t0 .undef).use (o.dst.getD 0)) (.own τ (app l xs) wf true (o.dst.getD 0)) := by
  obtain ⟨e, i, hu, he, hi, hby⟩ : ∃ e i, F.P.underlying t = some (.slice e) ∧ T.ty e = some τ ∧ F.P.info? e = some i ∧ i.bytes ≤ 128 := (hT _ _ hτ).und
  obtain ⟨i', hi', hisz, hiz⟩ := (hT _ _ he).info
  rw [hi] at hi'; cases hi'
  obtain ⟨csy, hally, hsrc⟩ := hy.src hu
  have hnl : csy.flatten.length = xs.length * τ.size := by rw [flatten_len hally.lens, hally.length]
  have hbig : (l.length + xs.length) * τ.size ≤ cap * τ.size := Nat.mul_le_mul_right _ hc
  rw [Nat.add_mul] at hbig
  rw [← hisz] at hsrc
  have hrun := run_append_room_src (P := F.P) w t t o.type e i hu hi g 0 l.length cap (a.eval y) xs.length csy.flatten hsrc hc (fun j hj => by
    rw [hisz, cell_of_heap r4, Array.getElem?_eq_getElem (by omega)]; rfl) (fun j hj => by
    have := r10 (0 + l.length * i.size + j) (by rw [hisz]; omega)
    simp only [World.frozen?, r4]
    simpa using this)
  rw [← hx, hisz, Nat.zero_add] at hrun
  have hw := setCells_wrote (o := l.length * τ.size) (vs := csy.flatten) r4
  obtain ⟨c', n1, n2, n3, n4⟩ := setCells_heap csy.flatten (l.length * τ.size) w cur r4
  have hZ : ∀ j, l.length * τ.size ≤ j ∧ j < l.length * τ.size + csy.flatten.length → ¬ G.im g j := fun j hj => r12 j hj.1
  have st := hw.stays hZ
  have h1 := h.writeSlot (by simp [OBJ]) r3 hw hZ (v := .undef) trivial fun n hn => hn.elim
  let v : Value := .slice (some ⟨g, 0, none⟩) (l.length + xs.length) cap
  have h2 := h1.reloc t0 0 (o.dst.getD 0, 0) .undef trivial fun n hn => hn.elim
  have e1 : (s.put t0 V.undef).put t0 .undef = s.put t0 .undef := by simp [St.put]
  rw [e1] at h2
  let G1 := SX.reloc G (t0, 0) (o.dst.getD 0, 0)
  let G2 : Gh := { G1 with hd := fun n => if n = o.dst.getD 0 then v else G1.hd n }
  have g1 : Grows (s.put t0 .undef) G1 G2 (w.setCells g (l.length * τ.size) csy.flatten) (w.setCells g (l.length * τ.size) csy.flatten) := ⟨rfl, rfl, rfl, Nat.le_refl _, fun _ _ => rfl, fun _ _ h => h, fun b i hi => ⟨.inl hi, h2.imlt b i hi⟩, fun _ _ => rfl, fun b L hL => (h2.owlt b L hL).2, rfl, fun n hn => if_neg (by rintro rfl; rw [show (s.put t0 V.undef).used = s.used from rfl, hfr] at hn; cases hn)⟩
  have h3 := (h2.grow g1 h2.base).use (o.dst.getD 0)
  refine .value (exec_append ho hrun) ⟨G2, ?_⟩
  refine h3.putd o.dst _ _ (fun t ht => ?_) fun n hn => by cases hn; exact used_same _ _
  have hln : (app l xs).length = l.length + xs.length := by simp [app]
  have hfl := flatten_len r8.lens
  have hcl : css.length = l.length := r8.length.symm
  refine ⟨by simp [G2, v], .inr ⟨g, cap, c', e0, fz, css ++ csy, by rw [hln], r2, ?_, n1, by rw [hln]; exact hc, r6, by rw [n2]; exact r7, ((r8.append hally).mono fun _ _ hr => hr.mono st.cell st.im), ?_, r10, fun _ => r11, fun j hj => r12 j ?_, r13⟩⟩
  · simp only [G2, G1, SX.reloc, r3, if_true]
    rw [ht]; rfl
  · rw [hln, List.flatten_append]
    apply List.ext_getElem?
    intro j
    rw [List.getElem?_take, Array.getElem?_toList, Nat.add_mul]
    by_cases c0 : j < l.length * τ.size
    · rw [if_pos (by omega), n3 _ (.inl c0), List.getElem?_append_left (by rw [hfl, hcl]; exact c0), ← r9, List.getElem?_take, if_pos c0, Array.getElem?_toList]
    · by_cases c1 : j < l.length * τ.size + xs.length * τ.size
      · rw [if_pos c1, List.getElem?_append_right (by rw [hfl, hcl]; omega), hfl, hcl]
        have := n4 (j - l.length * τ.size) (by omega) (by omega)
        rw [show l.length * τ.size + (j - l.length * τ.size) = j by omega] at this
        exact this
      · rw [if_neg c1, List.getElem?_eq_none]
        rw [List.length_append, hfl, hcl, hnl]; omega
  · rw [hln, Nat.add_mul] at hj; omega

/-- out of a slot: its content is spent -/
theorem append_slot (hT : TabOk F.P T) (h : Sim F G s a w) {o : Oper} {t : Nat} {x y : Operand} (ho : o.op = .call { callee := .builtin .append, args := #[x, y], argTypes := #[t, t] }) {τ : Ty} (hτ : T.ty t = some (.slice τ)) (hpos : 0 < τ.size)
    {l xs : List τ.D} {t0 ver : Nat} {wf : Bool} (hs0 : s.get t0 = .own τ l wf true ver) (htm : a.tmps.getD t0 undef = a.eval x) (hy : Sees w G.im τ xs (a.eval y)) {v : V}
    (hp : Path (.chk (fits l xs) (.slot t0 .undef (.fresh (o.dst.getD 0) (.ok (.own τ (app l xs) wf true (o.dst.getD 0)))))) s v s') : Good F o a w s' v := by
  obtain ⟨hf, hfr, rfl, rfl⟩ := hp
  have hfr0 : s.used.getD (o.dst.getD 0) true = false := hfr
  have h1 := h.slot t0 .undef trivial fun n hn => hn.elim
  obtain ⟨e1, e2⟩ := al_content h hs0
  rw [htm] at e1 e2
  rcases e2 with ⟨e2, rfl⟩ | ⟨g, cap, cur, e, fz, css, r1, r2, r3, r4, r5, r6, r7, r8, r9, r10, r11, r12, r13⟩
  · by_cases hx0 : xs = []
    · subst hx0
      exact append_nothing hT h1 ho hτ e2 hy hfr wf
    · have hlen : 0 < xs.length := by cases xs <;> simp_all
      exact append_new (base := none) (cap := 0) (l := []) (css := []) hT h1 ho hτ hpos e2 (run_firstCells_none w.drew τ.size 0 0 0) trivial hy (by simpa using hlen) hf hfr
  · by_cases hc : l.length + xs.length ≤ cap
    · exact append_room hT h ho hτ hpos hs0 r1 htm r2 r3 r4 r5 r6 r7 r8 r9 r10 (r11 rfl) r12 r13 hy hc hfr0
    · have hfl : css.flatten.length = l.length * τ.size := by rw [flatten_len r8.lens, r8.length]
      have hcells : ∀ j u, css.flatten[j]? = some u → w.cell? ((⟨g, 0, none⟩ : Addr).add j) = some u := fun j u hj => by
        rw [Addr.add_mid, Nat.zero_add, cell_of_heap r4]
        rw [← r9, List.getElem?_take] at hj
        split at hj
        · simpa using hj
        · cases hj
      exact append_new hT h1 ho hτ hpos r1 (run_firstCells_some w.drew τ.size l.length ⟨g, 0, none⟩ l.length cap css.flatten hfl (by simpa using hcells)) r8 hy (by omega) hf hfr

theorem append_good (hT : TabOk F.P T) (h : Sim F G s a w) {o : Oper} {t t' : Nat} {x y : Operand} (ho : o.op = .call { callee := .builtin .append, args := #[x, y], argTypes := #[t, t'] }) {v : V} (hp : Path (opAppend T (o.dst.getD 0) t t' x y) s v s') : Good F o a w s' v := by
  unfold opAppend at hp
  split at hp
  · rename_i τ hτ
    split at hp
    · rename_i hsp
      have hpos := szPos_pos hsp
      obtain ⟨vx, tx, hx, hp1⟩ := vget_path h hp
      clear hp
      obtain ⟨vy, ty, hy, hp2⟩ := vget_path h hp1
      clear hp1
      simp only at hp2
      split at hp2
      · rename_i htt
        have := Nat.eq_of_beq_eq_true htt
        subst this
        obtain ⟨xs, hsee, hp3⟩ := viewL_see h hy hp2
        clear hp2
        split at hp3
        · obtain ⟨hf, hfr, rfl, rfl⟩ := hp3
          have e : a.eval x = .slice none 0 0 := hx.rel
          by_cases hx0 : xs = []
          · subst hx0
            exact append_nothing hT h ho hτ e hsee hfr true
          · have hlen : 0 < xs.length := by cases xs <;> simp_all
            exact append_new (base := none) (cap := 0) (l := []) (css := []) hT h ho hτ hpos e (run_firstCells_none w.drew τ.size 0 0 0) trivial hsee (by simpa using hlen) hf hfr
        · rename_i y0 ver
          obtain ⟨τ', l, wf, ap, hs, hp4⟩ := slotOf_path hp3
          clear hp3
          split at hp4
          · rename_i hl'
            obtain ⟨e1, e2⟩ := castL_some hl'
            subst e1; simp only at e2; subst e2
            exact append_slot hT h ho hτ hpos hs ((al_content h hs).1.trans (show a.eval x = G.hd ver from hx.rel).symm) hsee hp4
          · exact hp4.elim
        · rename_i τ' l wf ap ver t0
          obtain ⟨rfl, e⟩ := hx.tmp t0 rfl
          split at hp3
          · rename_i hl'
            obtain ⟨e1, e2⟩ := castL_some hl'
            subst e1; simp only at e2; subst e2
            exact append_slot hT h ho hτ hpos e.symm rfl hsee hp3
          · exact hp3.elim
        · exact hp3.elim
      · exact hp2.elim
    · exact hp.elim
  · exact hp.elim

end
end Go.SX

-- SX: Sim19
namespace Go.SX
open Go.RowKit
set_option linter.unusedVariables false
set_option linter.unusedSimpArgs false

/-- a datum behind a pointer -/
def PtR (w : World) (im : Nat → Nat → Prop) (b off : Nat) (τ : Ty) (x : τ.D) (wr : Bool) : Prop :=
  ∃ cs c e fz, Rep w im τ x cs ∧ w.heap[b]? = some (.cells c e fz) ∧ (∀ j, j < τ.size → c[off + j]? = cs[j]?) ∧
    (wr = true → (∀ j, j < τ.size → ¬ (fz.1 ≤ off + j ∧ off + j < fz.2)) ∧ ∀ j, j < τ.size → ¬ im b (off + j))

def ArgsR (w : World) (im : Nat → Nat → Prop) : (ps : List PK) → (argT ps).D → List Value → Prop
  | [], _, us => us = []
  | .val τ :: ps, x, us => ∃ u us', us = u :: us' ∧ RepV w im τ x.1 u ∧ ArgsR w im ps x.2 us'
  | .ref τ :: ps, x, us => ∃ b off us', us = .pointer (some ⟨b, off, none⟩) :: us' ∧ PtR w im b off τ x.1 true ∧ ArgsR w im ps x.2 us'
  | .ro τ :: ps, x, us => ∃ b off us', us = .pointer (some ⟨b, off, none⟩) :: us' ∧ PtR w im b off τ x.1 false ∧ ArgsR w im ps x.2 us'

structure Spot where
  b : Nat
  off : Nat
  n : Nat
def Spot.apart (x y : Spot) : Prop := x.b ≠ y.b ∨ x.off + x.n ≤ y.off ∨ y.off + y.n ≤ x.off
def spotOf (τ : Ty) : Value → Spot
  | .pointer (some a) => ⟨a.block, a.off, τ.size⟩
  | _ => ⟨0, 0, τ.size⟩
theorem spotOf_n (τ : Ty) (u : Value) : (spotOf τ u).n = τ.size := by unfold spotOf; split <;> rfl
/-- where the pointers lead -/
def spots : List PK → List Value → List Spot
  | .val _ :: ps, _ :: us => spots ps us
  | .ref τ :: ps, u :: us => spotOf τ u :: spots ps us
  | .ro τ :: ps, u :: us => spotOf τ u :: spots ps us
  | _, _ => []
def spotsW : List PK → List Value → List Spot
  | .val _ :: ps, _ :: us => spotsW ps us
  | .ref τ :: ps, u :: us => spotOf τ u :: spotsW ps us
  | .ro _ :: ps, _ :: us => spotsW ps us
  | _, _ => []
/-- the cells that a call may write -/
def mus (ps : List PK) (us : List Value) : Nat → Nat → Prop := fun b i => ∃ x, x ∈ spotsW ps us ∧ x.b = b ∧ x.off ≤ i ∧ i < x.off + x.n

/-- a slice of the callee's own -/
def OwnN (w : World) (base : Nat) (im : Nat → Nat → Prop) (τ : Ty) (l : List τ.D) (wf : Bool) (v : Value) : Prop :=
  (v = .slice none 0 0 ∧ l = []) ∨
  ∃ g cap cur e css, v = .slice (some ⟨g, 0, none⟩) l.length cap ∧ base ≤ g ∧ w.heap[g]? = some (.cells cur e) ∧ l.length ≤ cap ∧ cap ≤ maxLen ∧ cur.size = cap * τ.size ∧
    All2 (Rep w im τ) l css ∧ cur.toList.take (l.length * τ.size) = css.flatten ∧ (∀ i, l.length * τ.size ≤ i → ¬ im g i) ∧ (wf = true → ∀ i, ¬ im g i)

def ResR (w : World) (im : Nat → Nat → Prop) (base : Nat) : (rs : List RK) → (q : Ty) → (resT rs q).D → List Value → Prop
  | [], _, _, vs => vs = []
  | .val τ :: rs, q, r, vs => ∃ v vs', vs = v :: vs' ∧ RepV w im τ r.1 v ∧ ResR w im base rs q r.2 vs'
  | .own τ wf :: rs, q, r, vs => ∃ v vs', vs = v :: vs' ∧ OwnN w base im τ r.1 wf v ∧ ResR w im base rs q r.2 vs'

def restQ : (rs : List RK) → (q : Ty) → (resT rs q).D → q.D
  | [], _, r => r
  | .val _ :: rs, q, r => restQ rs q r.2
  | .own _ _ :: rs, q, r => restQ rs q r.2

/-- what the pointers lead to behind the call -/
def RefsR (w : World) (im : Nat → Nat → Prop) : (ps : List PK) → List Value → (refT ps).D → Prop
  | .val _ :: ps, _ :: us, r => RefsR w im ps us r
  | .ro _ :: ps, _ :: us, r => RefsR w im ps us r
  | .ref τ :: ps, u :: us, r => (∃ cs, Rep w im τ r.1 cs ∧ w.rangeAt (spotOf τ u).b (spotOf τ u).off cs) ∧ RefsR w im ps us r.2
  | _, _, _ => True

def retV : List Value → Value
  | [v] => v
  | vs => .tuple vs.toArray

/-- the function is called, and ends; or it is one of the model's own, and answers at once -/
def Enters (P : Program) (f : FuncId) (args : Array Value) (w : World) (R : Ending → World → Prop) : Prop :=
  ((callFunc f args).run P w = .ok (.enter f args) w ∧ Calls P f args w R) ∨ ∃ v w', (callFunc f args).run P w = .ok (.value v) w' ∧ R (.returned v) w'

/-- the function does what the contract says -/
def ConOk0 (P : Program) (c : Con) : Prop :=
  ∀ (im0 : Nat → Nat → Prop) (w : World) (x : (argT c.ps).D) (r : (resT c.rs (refT c.ps)).D) (us : List Value),
    c.F x = some r → ArgsR w im0 c.ps x us → (spots c.ps us).Pairwise Spot.apart → (∀ b i, im0 b i → b < w.heap.size) → GlobP P im0 w →
    Enters P c.f us.toArray w fun e w' => ∃ (vs : List Value) (im' : Nat → Nat → Prop), e = .returned (retV vs) ∧ Keep (mus c.ps us) w w' ∧ (∀ b i, im0 b i → im' b i) ∧
      (∀ b i, im' b i → b < w'.heap.size ∧ (b < w.heap.size → im0 b i)) ∧ ResR w' im' w.heap.size c.rs (refT c.ps) r vs ∧ RefsR w' im' c.ps us (restQ c.rs (refT c.ps) r)

/-- a builder's buffer -/
def BufR (w : World) (u : Nat) (v : Value) (x : List Int) : Prop :=
  (∀ n ∈ x, IntKind.u8.wrap n = n) ∧ ((v = .slice none 0 0 ∧ x = []) ∨
  ∃ g cap cur fz, v = .slice (some ⟨g, 0, none⟩) x.length cap ∧ w.heap[g]? = some (.cells cur u fz) ∧ fz.2 ≤ x.length ∧ x.length ≤ cap ∧ cap ≤ maxLen ∧ cur.size = cap ∧ cur.toList.take x.length = x.map (Value.int .u8) ∧ x ≠ [])
/-- all but the builder's block and its buffer is as it was -/
structure Others (b : Nat) (v : Value) (w w' : World) : Prop where
  os : w'.os = w.os
  tape : w'.tape = w.tape
  output : w'.output = w.output
  size : w.heap.size ≤ w'.heap.size
  block : ∀ k, k < w.heap.size → k ≠ b → v.ownBlock ≠ some k → w'.heap[k]? = w.heap[k]?
def BldCall (bk : Nat) (x : List Int) (args : List Value) (x' : List Int) : Prop :=
  (bk = 1 ∧ ∃ s : ByteArray, args = [.string s] ∧ x' = x ++ bytesD s ∧ x.length + s.size < appLim) ∨ (bk = 2 ∧ ∃ c, args = [.int .u8 c] ∧ IntKind.u8.wrap c = c ∧ x' = x ++ [c] ∧ x.length + 1 < appLim) ∨ (bk = 3 ∧ args = [] ∧ x' = x)
def BldOk (P : Program) (f bk e u : Nat) : Prop :=
  ∀ (w : World) (b : Nat) (p v : Value) (x : List Int) (args : List Value) (x' : List Int), w.heap[b]? = some (.cells #[p, v] e (0, 0)) → (p = .pointer none ∨ p = .pointer (some ⟨b, 0, none⟩)) → BufR w u v x → v.ownBlock ≠ some b → BldCall bk x args x' →
    Enters P f (Value.pointer (some ⟨b, 0, none⟩) :: args).toArray w fun en w' => ∃ ret p' v', en = .returned ret ∧ (bk = 3 → ∃ bs, ret = .string bs ∧ bytesD bs = x ∧ bs.size ≤ maxLen) ∧
      w'.heap[b]? = some (.cells #[p', v'] e (0, 0)) ∧ (p' = .pointer none ∨ p' = .pointer (some ⟨b, 0, none⟩)) ∧ BufR w' u v' x' ∧ v'.ownBlock ≠ some b ∧ (∀ k, v'.ownBlock = some k → k < w.heap.size → v.ownBlock = some k) ∧ Others b v w w'

def ConOk (P : Program) (c : Con) : Prop := match Nat.beq c.bk 0 with
  | true => ConOk0 P c
  | false => match c.ps with
    | [.val (.bld e u)] => BldOk P c.f c.bk e u
    | _ => True

section
variable {F : Frm} {G G' : Gh} {s s' s1 : St} {a : Act} {w w' w1 : World} {T : Tab} {cons : List Con}

theorem Keep.cell {mu : Nat → Nat → Prop} {w w' : World} (h : Keep mu w w') {b i : Nat} {v : Value} (hm : ¬ mu b i) (hc : w.cell? ⟨b, i, none⟩ = some v) : w'.cell? ⟨b, i, none⟩ = some v := by
  unfold World.cell? at hc ⊢
  simp only at hc ⊢
  cases hb : w.heap[b]? with
  | none => rw [hb] at hc; cases hc
  | some o =>
    rw [hb] at hc
    cases o with
    | cells c e fz =>
      obtain ⟨c', h1, h2, h3⟩ := h.cells b c e fz hb
      rw [h1]
      simp only at hc ⊢
      rw [h3 i hm]; exact hc
    | _ => cases hc

theorem Sim.glob (h : Sim F G s a w) : GlobP F.P G.im w := fun g hg => by
  obtain ⟨h1, m, hm⟩ := F.glob g hg
  exact ⟨h.im0 _ _ h1, m, h.keep.cell (fun hmu => F.mi _ _ hmu h1) hm⟩

/-- what is known of a call -/
structure Called (F : Frm) (G G' : Gh) (s : St) (w w' : World) (mu : Nat → Nat → Prop) : Prop where
  hk : Keep mu w w'
  hmu : ∀ b i, mu b i → ∃ o off τ y, G.site o = some (b, off, τ) ∧ s.ob o = .var τ y ∧ off ≤ i ∧ i < off + τ.size
  him : ∀ b i, G.im b i → G'.im b i
  him' : ∀ b i, G'.im b i → b < w'.heap.size ∧ (b < w.heap.size → G.im b i)
  how : ∀ b, b < w.heap.size → G'.ow b = G.ow b
  how' : ∀ b L, G'.ow b = some L → b < w'.heap.size
  hsite : G'.site = G.site
  hhd : ∀ n, s.used.getD n true = true → G'.hd n = G.hd n

theorem Called.stays (h : Sim F G s a w) {mu : Nat → Nat → Prop} (hc : Called F G G' s w w' mu) : Stays (fun _ => False) G G' w w' := by
  obtain ⟨hk, hmu, him, him', how, how', hsite, hhd⟩ := hc
  have nim : ∀ b i, mu b i → ¬ G.im b i := by
    intro b i hm
    obtain ⟨o, off, τ, y, h1, h2, h3, h4⟩ := hmu b i hm
    obtain ⟨b0, off0, e0, cs, c0, e1, fz0, q1, q2, q3, q4⟩ := h.vars o τ y h2
    rw [h1] at e0; cases e0
    have := (q4 rfl).2.1 (i - off) (by omega)
    rwa [show off + (i - off) = i by omega] at this
  have now : ∀ b i, mu b i → G.ow b = none := by
    intro b i hm
    obtain ⟨o, off, τ, y, h1, h2, h3, h4⟩ := hmu b i hm
    exact h.sow o _ _ _ h1
  have st : Stays (fun _ => False) G G' w w' := by
    refine ⟨fun b i v hi hc => ?_, him, fun b L hL _ => ?_, fun o x hx => by rw [hsite]; exact hx⟩
    · have hlt := cell_lt hc
      unfold World.cell? at hc
      split at hc
      · rename_i c e f hb
        obtain ⟨c', k1, k2, k3⟩ := hk.cells b c e f hb
        rw [cell_of_heap k1, k3 i fun hm => nim b i hm hi]; exact hc
      · cases hc
    · have hb := (h.owlt b L hL).2
      refine ⟨by rw [how b hb]; exact hL, hk.block b hb fun i hm => ?_, fun i hi => (him' b i hi).2 hb⟩
      rw [now b i hm] at hL; cases hL
  exact st

/-- behind a call -/
theorem Sim.called (h : Sim F G s a w) {mu : Nat → Nat → Prop} (hca : Called F G G' s w w' mu)
    (env : s'.env = s.env) (used : s'.used = s.used) (obl : s'.objs.length = s.objs.length)
    (hob : ∀ o, (s'.ob o = s.ob o ∧ ∀ b off τ, G.site o = some (b, off, τ) → ∀ j, j < τ.size → ¬ mu b (off + j)) ∨
      ∃ τ y y' b off cs', s.ob o = .var τ y ∧ s'.ob o = .var τ y' ∧ G.site o = some (b, off, τ) ∧ Rep w' G'.im τ y' cs' ∧ w'.rangeAt b off cs') : Sim F G' s' a w' := by
  have st := hca.stays h
  obtain ⟨hk, hmu, him, him', how, how', hsite, hhd⟩ := hca
  have nmu : ∀ b i, mu b i → F.W0.heap.size ≤ b ∨ F.mu b i := by
    intro b i hm
    obtain ⟨o, off, τ, y, h1, h2, h3, h4⟩ := hmu b i hm
    obtain ⟨b0, off0, e0, cs, c0, e1, fz0, q1, q2, q3, q4⟩ := h.vars o τ y h2
    rw [h1] at e0; cases e0
    refine (q4 rfl).2.2.imp id fun hh => ?_
    have := hh (i - off) (by omega)
    rwa [show off + (i - off) = i by omega] at this
  have obs : ∀ o b off τ x wr, G.site o = some (b, off, τ) → (∀ j, j < τ.size → ¬ mu b (off + j)) → ObR F G w b off τ x wr → ObR F G' w' b off τ x wr := by
    rintro o b off τ x wr _ hn ⟨cs, c, e, fz, k1, k2, k3, k4⟩
    obtain ⟨c', m1, m2, m3⟩ := hk.cells b c e fz k2
    refine ⟨cs, c', e, fz, k1.mono st.cell st.im, m1, fun j hj => by rw [m3 _ (hn j hj)]; exact k3 j hj, fun hw => ?_⟩
    obtain ⟨q1, q2, q3⟩ := k4 hw
    exact ⟨q1, fun j hj hm => q2 j hj ((him' b _ hm).2 (heap_lt k2)), q3⟩
  have hdead : Dead F G.site s'.ob := by
    refine ⟨fun o ho => ?_, fun o x hx => ?_⟩
    · rcases hob o with ⟨e, _⟩ | ⟨τ, y, y', b, off, cs', e1, e2, _⟩
      · exact h.dead.1 o (by rw [← e]; exact ho)
      · rw [e2] at ho; cases ho
    · obtain ⟨k1, k2, k3, k4⟩ := h.dead.2 o x hx
      refine ⟨k1, k2, ?_, k4⟩
      rcases hob o with ⟨e, _⟩ | ⟨τ, y, y', b, off, cs', e1, e2, _⟩
      · rw [e]; exact k3
      · rw [e2]; intro e; cases e
  have hget : ∀ t, s'.get t = s.get t := fun t => by simp [St.get, env]
  refine ⟨h.defers, h.tmps, by rw [env]; exact h.env, by rw [obl]; exact h.obl, by rw [used]; exact h.usl, ?_, fun t => ?_, ?_, ?_, ?_, by rw [hsite]; exact hdead, by rw [hsite]; exact h.apart, ?_, fun b i hi => (him' b i hi).1, fun b i hi hb => ?_, fun b i hi => him b i (h.im0 b i hi), ?_, ?_⟩
  · -- kept
    refine ⟨hk.os.trans h.keep.os, hk.tape.trans h.keep.tape, hk.output.trans h.keep.output, Nat.le_trans h.keep.size hk.size, fun b hb hn => ?_, fun b c e fz hc => ?_⟩
    · rw [hk.block b (Nat.lt_of_lt_of_le hb h.keep.size) fun i hm => (nmu b i hm).elim (fun hh => by omega) (hn i)]
      exact h.keep.block b hb hn
    · have hb := heap_lt hc
      obtain ⟨c1, k1, k2, k3⟩ := h.keep.cells b c e fz hc
      obtain ⟨c2, m1, m2, m3⟩ := hk.cells b c1 e fz k1
      exact ⟨c2, m1, m2.trans k2, fun i hi => by rw [m3 i fun hm => (nmu b i hm).elim (fun hh => by omega) hi]; exact k3 i hi⟩
  · rw [hget]; exact (h.vals t).mono st (fun _ _ => id) fun n hn => hhd n (h.named hn)
  · intro o τ x hx
    rcases hob o with ⟨e, hn⟩ | ⟨τ', y, y', b, off, cs', e1, e2, e3, e4, e5⟩
    · rw [e] at hx
      obtain ⟨b, off, h1, h2⟩ := h.vars o τ x hx
      exact ⟨b, off, by rw [hsite]; exact h1, obs o b off τ x true h1 (hn b off τ h1) h2⟩
    · rw [e2] at hx; cases hx
      obtain ⟨b0, off0, e0, cs, c0, e6, fz0, q1, q2, q3, q4⟩ := h.vars o _ _ e1
      rw [e3] at e0; cases e0
      obtain ⟨c', m1, m2, m3⟩ := hk.cells b c0 e6 fz0 q2
      obtain ⟨n1, n2, n3⟩ := q4 rfl
      refine ⟨b, off, by rw [hsite]; exact e3, cs', c', e6, fz0, e4, m1, fun j hj => ?_, fun _ => ⟨n1, fun j hj hm => n2 j hj ((him' b _ hm).2 (heap_lt q2)), n3⟩⟩
      have hlt : j < cs'.length := by rw [e4.length]; exact hj
      have := e5 j _ (List.getElem?_eq_getElem hlt)
      rw [cell_of_heap m1] at this
      rw [this, List.getElem?_eq_getElem hlt]
  · intro o τ x hx
    rcases hob o with ⟨e, hn⟩ | ⟨τ', y, y', b, off, cs', e1, e2, e3, e4, e5⟩
    · rw [e] at hx
      obtain ⟨b, off, h1, h2⟩ := h.ros o τ x hx
      exact ⟨b, off, by rw [hsite]; exact h1, obs o b off τ x false h1 (hn b off τ h1) h2⟩
    · rw [e2] at hx; cases hx
  · intro o τ x k hx
    rcases hob o with ⟨e, hn⟩ | ⟨τ', y, y', b, off, cs', e1, e2, e3, e4, e5⟩
    · rw [e] at hx
      obtain ⟨b, off, h1, h2, h3⟩ := h.vobs o τ x k hx
      refine ⟨b, off, by rw [hsite]; exact h1, h2.mono st (fun _ => id) (fun c e' fz hc => ?_) (fun j hj hm => (him' b _ hm).2 h2.lt), h3⟩
      obtain ⟨c', m1, m2, m3⟩ := hk.cells b c e' fz hc
      exact ⟨c', m1, m2, fun j hj => m3 _ (hn b off τ h1 j hj)⟩
    · rw [e2] at hx; cases hx
  · intro o b off τ ho
    rw [hsite] at ho
    rw [how b (site_lt h ho)]; exact h.sow o b off τ ho
  · exact h.imb b i ((him' b i hi).2 (Nat.lt_of_lt_of_le hb h.keep.size)) hb
  · intro b L hL
    by_cases hb : b < w.heap.size
    · rw [how b hb] at hL; exact ⟨(h.owlt b L hL).1, how' b L (by rw [how b hb]; exact hL)⟩
    · exact ⟨fun _ => by have := h.base; omega, how' b L hL⟩
  · intro n hn t
    rw [hget]; exact h.used n (by rw [← used]; exact hn) t

end
end Go.SX

-- SX: Sim20
namespace Go.SX
open Go.RowKit
set_option linter.unusedVariables false
set_option linter.unusedSimpArgs false

def imK (keep : Bool) (G : Gh) : Nat → Nat → Prop := match keep with | true => G.im | false => imr G

section
variable {F : Frm} {G G' : Gh} {s s' s1 : St} {a : Act} {w w' w1 : World} {T : Tab} {cons : List Con}

theorem imK_mono {keep : Bool} {G1 : Gh} (k : Kept F G s a w G1 s1) : ∀ b i, imK keep G b i → imK keep G1 b i := by
  intro b i h
  cases keep with
  | true => exact k.im b i h
  | false =>
    rcases h with h | ⟨L, hL⟩
    · exact .inl (k.im b i h)
    · exact .inr ⟨L, by rw [k.ow]; exact hL⟩

theorem derefW_path (h : Sim F G s a w) {v : V} {u : Value} {t : Nat} (hrel : RelV F G w t v u) {τ : Ty} {k : τ.D → Cmd} {r : V} (hp : Path (derefW τ v k) s r s') :
    ∃ y o τo p b off yo, v = .ptr o τo p ∧ s.ob o = .var τo yo ∧ G.site o = some (b, off, τo) ∧ okP p τo ∧ tyP p τo = some τ ∧ u = .pointer (some ⟨b, off + offP p τo, none⟩) ∧
      (∀ cs, Rep w G.im τo yo cs → Rep w G.im τ y ((cs.drop (offP p τo)).take τ.size)) ∧ Path (k y) s r s' := by
  unfold derefW at hp
  split at hp
  · rename_i o τo p
    obtain ⟨b, off, hs, hok, hu⟩ := hrel
    simp only [Path] at hp
    split at hp
    · rename_i τ1 y e
      obtain ⟨b', off', h1, h2⟩ := h.vars o τ1 y e
      rw [hs] at h1; cases h1
      split at hp
      · rename_i y' hy
        obtain ⟨e1, e2⟩ := cast_some hy
        cases e1
        simp only at e2; subst e2
        obtain ⟨σ, z, k1, k2, k3⟩ := getP_rep (w := w) (im := G.im) p _ _ hp
        split at k2
        · rename_i z' hz
          obtain ⟨rfl, rfl⟩ := cast_some hz
          exact ⟨_, o, _, p, b, off, _, rfl, e, hs, hok, k1, hu, fun cs hr => k3 cs hok hr, k2⟩
        · exact k2.elim
      · exact hp.elim
    · exact hp.elim
  · exact hp.elim

theorem derefR_path (h : Sim F G s a w) {v : V} {u : Value} {t : Nat} (hrel : RelV F G w t v u) {τ : Ty} {k : τ.D → Cmd} {r : V} (hp : Path (derefD τ v k) s r s') :
    ∃ y o τo p b off yo wr, v = .ptr o τo p ∧ G.site o = some (b, off, τo) ∧ okP p τo ∧ tyP p τo = some τ ∧ u = .pointer (some ⟨b, off + offP p τo, none⟩) ∧ ObR F G w b off τo yo wr ∧
      (∀ cs, Rep w G.im τo yo cs → Rep w G.im τ y ((cs.drop (offP p τo)).take τ.size)) ∧ Path (k y) s r s' := by
  unfold derefD at hp
  split at hp
  · rename_i o τo p
    obtain ⟨b, off, hs, hok, hu⟩ := hrel
    have fin : ∀ (y : τo.D) (wr : Bool), ObR F G w b off τo y wr → Path (getP p τo y (fun σ z => match cast? τ z with | some z => k z | Option.none => .fail) .fail) s r s' →
        ∃ y2 o2 τo2 p2 b2 off2 yo wr, V.ptr o τo p = .ptr o2 τo2 p2 ∧ G.site o2 = some (b2, off2, τo2) ∧ okP p2 τo2 ∧ tyP p2 τo2 = some τ ∧ u = .pointer (some ⟨b2, off2 + offP p2 τo2, none⟩) ∧ ObR F G w b2 off2 τo2 yo wr ∧
          (∀ cs, Rep w G.im τo2 yo cs → Rep w G.im τ y2 ((cs.drop (offP p2 τo2)).take τ.size)) ∧ Path (k y2) s r s' := by
      intro y wr ho hp
      obtain ⟨σ, z, k1, k2, k3⟩ := getP_rep (w := w) (im := G.im) p τo y hp
      split at k2
      · rename_i z' hz
        obtain ⟨rfl, rfl⟩ := cast_some hz
        exact ⟨_, o, _, p, b, off, y, wr, rfl, hs, hok, k1, hu, ho, fun cs hr => k3 cs hok hr, k2⟩
      · exact k2.elim
    simp only [Path] at hp
    split at hp
    · rename_i τ1 y e
      obtain ⟨b', off', h1, h2⟩ := h.vars o τ1 y e
      rw [hs] at h1; cases h1
      split at hp
      · rename_i y' hy
        obtain ⟨e1, e2⟩ := cast_some hy
        cases e1
        simp only at e2; subst e2
        exact fin _ _ h2 hp
      · exact hp.elim
    · rename_i τ1 y e
      obtain ⟨b', off', h1, h2⟩ := h.ros o τ1 y e
      rw [hs] at h1; cases h1
      split at hp
      · rename_i y' hy
        obtain ⟨e1, e2⟩ := cast_some hy
        cases e1
        simp only at e2; subst e2
        exact fin _ _ h2 hp
      · exact hp.elim
    · exact hp.elim
  · exact hp.elim

/-- a part of an object, behind a pointer -/
theorem ObR.ptr {b off : Nat} {τo τ : Ty} {yo : τo.D} {y : τ.D} {p : List PStep} {wr wr' : Bool} {im : Nat → Nat → Prop} (h : ObR F G w b off τo yo wr) (hy : ∀ cs, Rep w G.im τo yo cs → Rep w G.im τ y ((cs.drop (offP p τo)).take τ.size))
    (him : ∀ b i, G.im b i → im b i) (him' : ∀ i, im b i → G.im b i) (hw : wr' = true → wr = true) : PtR w im b (off + offP p τo) τ y wr' := by
  obtain ⟨cs, c, e, fz, h1, h2, h3, h4⟩ := h
  have hr := hy cs h1
  have hl := hr.length
  have hcl := h1.length
  rw [List.length_take, List.length_drop] at hl
  refine ⟨_, c, e, fz, hr.mono (fun _ _ _ _ h => h) him, h2, fun j hj => ?_, fun hwr => ?_⟩
  · rw [List.getElem?_take, if_pos hj, List.getElem?_drop, Nat.add_assoc]
    exact h3 _ (by omega)
  · obtain ⟨k1, k2, _⟩ := h4 (hw hwr)
    refine ⟨fun j hj => ?_, fun j hj hm => ?_⟩
    · rw [Nat.add_assoc]; exact k1 _ (by omega)
    · rw [Nat.add_assoc] at hm; exact k2 _ (by omega) (him' _ hm)

/-- where the pointers among the arguments lead -/
def PtsAt (G : Gh) (s : St) (w : World) : (ps : List PK) → List Value → List V → Prop
  | [], us, vs => us = [] ∧ vs = []
  | .val _ :: ps, us, vs => ∃ u us', us = u :: us' ∧ PtsAt G s w ps us' vs
  | .ref τ :: ps, us, vs => ∃ u us' o τo p vs' b off yo, us = u :: us' ∧ vs = .ptr o τo p :: vs' ∧ s.ob o = .var τo yo ∧ G.site o = some (b, off, τo) ∧ okP p τo ∧ tyP p τo = some τ ∧ u = .pointer (some ⟨b, off + offP p τo, none⟩) ∧
      offP p τo + τ.size ≤ τo.size ∧ PtsAt G s w ps us' vs'
  | .ro τ :: ps, us, vs => ∃ u us' o τo p vs' b off, us = u :: us' ∧ vs = .ptr o τo p :: vs' ∧ G.site o = some (b, off, τo) ∧ okP p τo ∧ tyP p τo = some τ ∧ u = .pointer (some ⟨b, off + offP p τo, none⟩) ∧
      offP p τo + τ.size ≤ τo.size ∧ PtsAt G s w ps us' vs'

theorem PtsAt.kept {G1 : Gh} (hs : G1.site = G.site) (ho : ∀ o, s1.ob o = s.ob o) : ∀ (ps : List PK) (us : List Value) (vs : List V), PtsAt G1 s1 w ps us vs → PtsAt G s w ps us vs
  | [], us, vs, h => h
  | .val _ :: ps, us, vs, h => by
    obtain ⟨u, us', e, h⟩ := h
    exact ⟨u, us', e, PtsAt.kept hs ho ps us' vs h⟩
  | .ref τ :: ps, us, vs, h => by
    obtain ⟨u, us', o, τo, p, vs', b, off, yo, e1, e2, e3, e4, e5, e6, e7, e8, h⟩ := h
    exact ⟨u, us', o, τo, p, vs', b, off, yo, e1, e2, by rw [← ho]; exact e3, by rw [← hs]; exact e4, e5, e6, e7, e8, PtsAt.kept hs ho ps us' vs' h⟩
  | .ro τ :: ps, us, vs, h => by
    obtain ⟨u, us', o, τo, p, vs', b, off, e1, e2, e4, e5, e6, e7, e8, h⟩ := h
    exact ⟨u, us', o, τo, p, vs', b, off, e1, e2, by rw [← hs]; exact e4, e5, e6, e7, e8, PtsAt.kept hs ho ps us' vs' h⟩

theorem part_in {τo τ : Ty} {yo : τo.D} {y : τ.D} {p : List PStep} {cs : List Value} {im : Nat → Nat → Prop} (h : Rep w im τo yo cs) (hr : Rep w im τ y ((cs.drop (offP p τo)).take τ.size)) (hle : offP p τo ≤ τo.size) : offP p τo + τ.size ≤ τo.size := by
  have hl := hr.length
  have hcl := h.length
  rw [List.length_take, List.length_drop] at hl
  omega

theorem fldOff_le : ∀ (τ : Ty) (i : Nat) (φ : Ty), fldT τ i = some φ → fldOff τ i + φ.size ≤ τ.size
  | .scons t r, 0, φ, h => by simp only [fldT, Option.some.injEq] at h; subst h; simp [fldOff, Ty.size]
  | .scons t r, i + 1, φ, h => by
    have := fldOff_le r i φ h
    simp only [fldOff, Ty.size]; omega
  | .int _, _, _, h => by simp [fldT] at h
  | .bool, _, _, h => by simp [fldT] at h
  | .str, _, _, h => by simp [fldT] at h
  | .snil, _, _, h => by simp [fldT] at h
  | .arr _ _, _, _, h => by simp [fldT] at h
  | .slice _, _, _, h => by simp [fldT] at h
theorem offP_le : ∀ (p : List PStep) (τo τ : Ty), okP p τo → tyP p τo = some τ → offP p τo + τ.size ≤ τo.size
  | [], τo, τ, _, h => by simp only [tyP, Option.some.injEq] at h; subst h; simp [offP]
  | .fld i :: p, τo, τ, hok, h => by
    simp only [tyP, okP, offP] at *
    split at h
    · rename_i t ht
      rw [ht] at hok
      have h1 := fldOff_le τo i t ht
      have h2 := offP_le p t τ hok h
      first | (simp only [ht]; omega) | omega
    · cases h
  | .idx i :: p, τo, τ, hok, h => by
    cases τo with
    | arr n t =>
      simp only [tyP, okP, offP] at *
      have h2 := offP_le p t τ hok.2 h
      have : i * t.size + t.size ≤ n * t.size := by rw [← Nat.succ_mul]; exact Nat.mul_le_mul_right _ hok.1
      simp only [Ty.size]; omega
    | _ => simp [tyP] at h

theorem gather_path (keep : Bool) : ∀ (ps : List PK) (xs : List Operand) {G : Gh} {s : St} (h : Sim F G s a w) {k : (argT ps).D → List V → Cmd} {r : V}, Path (gather keep ps xs k) s r s' →
    ∃ x vs G1 s1, Kept F G s a w G1 s1 ∧ ArgsR w (imK keep G1) ps x (xs.map a.eval) ∧ PtsAt G1 s1 w ps (xs.map a.eval) vs ∧ Path (k x vs) s1 r s'
  | [], [], G, s, h, k, r, hp => ⟨_, _, G, s, .refl h, rfl, ⟨rfl, rfl⟩, hp⟩
  | [], _ :: _, G, s, h, k, r, hp => hp.elim
  | .val _ :: _, [], G, s, h, k, r, hp => hp.elim
  | .ref _ :: _, [], G, s, h, k, r, hp => hp.elim
  | .ro _ :: _, [], G, s, h, k, r, hp => hp.elim
  | .val τ :: ps, x :: xs, G, s, h, k, r, hp => by
    obtain ⟨v, t, hx, hp1⟩ := vget_path h hp
    clear hp
    cases keep with
    | true =>
      obtain ⟨y, G1, s1, hk, hy, hp2⟩ := keepD_path h hx hp1
      obtain ⟨x', vs, G2, s2, hk2, ha, hpt, hp3⟩ := gather_path true ps xs hk.sim hp2
      exact ⟨_, vs, G2, s2, hk.trans hk2, ⟨_, _, rfl, hk2.repV hy, ha⟩, ⟨_, _, rfl, hpt⟩, hp3⟩
    | false =>
      obtain ⟨y, hy, hp2⟩ := readD_path h hx hp1
      obtain ⟨x', vs, G2, s2, hk2, ha, hpt, hp3⟩ := gather_path false ps xs h hp2
      exact ⟨_, vs, G2, s2, hk2, ⟨_, _, rfl, hy.mono (fun _ _ _ _ h => h) (imK_mono (keep := false) hk2), ha⟩, ⟨_, _, rfl, hpt⟩, hp3⟩
  | .ref τ :: ps, x :: xs, G, s, h, k, r, hp => by
    obtain ⟨v, t, hx, hp1⟩ := vget_path h hp
    clear hp
    obtain ⟨y, o, τo, p, b, off, yo, rfl, e1, e2, e3, e4, e5, e6, hp2⟩ := derefW_path h hx.rel hp1
    obtain ⟨x', vs, G2, s2, hk2, ha, hpt, hp3⟩ := gather_path keep ps xs h hp2
    have hob : s2.ob o = .var τo yo := by
      have : s2.ob o = s.ob o := by simp [St.ob, hk2.objs]
      rw [this]; exact e1
    have hsite : G2.site o = some (b, off, τo) := by rw [hk2.site]; exact e2
    obtain ⟨b', off', h1, h2⟩ := hk2.sim.vars o τo yo hob
    rw [hsite] at h1; cases h1
    have how := hk2.sim.sow o b off τo hsite
    have hpt2 : PtR w (imK keep G2) b (off + offP p τo) τ y true := by
      -- the cells' own claims, in the last state
      obtain ⟨b0, off0, q1, q2⟩ := h.vars o τo yo e1
      rw [e2] at q1; cases q1
      obtain ⟨cs, c, e, fz, m1, m2, m3, m4⟩ := q2
      have hr := e6 cs m1
      have hl := hr.length
      have hcl := m1.length
      rw [List.length_take, List.length_drop] at hl
      obtain ⟨_, _, _, _, _, n2, _, n4⟩ := h2
      rw [m2] at n2; cases n2
      obtain ⟨z1, z2, _⟩ := n4 rfl
      refine ⟨_, c, e, fz, (hr.mono (fun _ _ _ _ h => h) fun b i hi => ?_), m2, fun j hj => ?_, fun _ => ⟨fun j hj => ?_, fun j hj hm => ?_⟩⟩
      · refine imK_mono hk2 b i ?_
        cases keep
        · exact .inl hi
        · exact hi
      · rw [List.getElem?_take, if_pos hj, List.getElem?_drop, Nat.add_assoc]; exact m3 _ (by omega)
      · rw [Nat.add_assoc]; exact z1 _ (by omega)
      · rw [Nat.add_assoc] at hm
        refine z2 (offP p τo + j) (by omega) ?_
        cases keep with
        | true => exact hm
        | false =>
          rcases hm with hm | ⟨L, hL⟩
          · exact hm
          · rw [how] at hL; cases hL.1
    exact ⟨_, _, G2, s2, hk2, ⟨_, _, _, by rw [List.map_cons, e5], hpt2, ha⟩, ⟨_, _, o, τo, p, vs, b, off, yo, rfl, rfl, hob, hsite, e3, e4, e5, offP_le p τo τ e3 e4, hpt⟩, hp3⟩
  | .ro τ :: ps, x :: xs, G, s, h, k, r, hp => by
    obtain ⟨v, t, hx, hp1⟩ := vget_path h hp
    clear hp
    obtain ⟨y, o, τo, p, b, off, yo, wr, rfl, e2, e3, e4, e5, e1, e6, hp2⟩ := derefR_path h hx.rel hp1
    obtain ⟨x', vs, G2, s2, hk2, ha, hpt, hp3⟩ := gather_path keep ps xs h hp2
    have hsite : G2.site o = some (b, off, τo) := by rw [hk2.site]; exact e2
    have hpt2 : PtR w (imK keep G2) b (off + offP p τo) τ y false := by
      obtain ⟨cs, c, e, fz, m1, m2, m3, m4⟩ := e1
      have hr := e6 cs m1
      have hl := hr.length
      have hcl := m1.length
      rw [List.length_take, List.length_drop] at hl
      refine ⟨_, c, e, fz, (hr.mono (fun _ _ _ _ h => h) fun b i hi => ?_), m2, fun j hj => ?_, fun hf => by cases hf⟩
      · refine imK_mono hk2 b i ?_
        cases keep
        · exact .inl hi
        · exact hi
      · rw [List.getElem?_take, if_pos hj, List.getElem?_drop, Nat.add_assoc]; exact m3 _ (by omega)
    exact ⟨_, _, G2, s2, hk2, ⟨_, _, _, by rw [List.map_cons, e5], hpt2, ha⟩, ⟨_, _, o, τo, p, vs, b, off, rfl, rfl, hsite, e3, e4, e5, offP_le p τo τ e3 e4, hpt⟩, hp3⟩

end
end Go.SX

-- SX: Sim21
namespace Go.SX
open Go.RowKit
set_option linter.unusedVariables false
set_option linter.unusedSimpArgs false

/-- the objects that a call may write -/
def refObjs : List PK → List V → List Nat
  | .val _ :: ps, vs => refObjs ps vs
  | .ro _ :: ps, _ :: vs => refObjs ps vs
  | .ref _ :: ps, .ptr o _ _ :: vs => o :: refObjs ps vs
  | .ref _ :: ps, _ :: vs => refObjs ps vs
  | _, _ => []

theorem nodup_of {l : List Nat} (h : nodupB l = true) : l.Nodup := by
  induction l with
  | nil => simp
  | cons a l ih =>
    simp only [nodupB, Bool.and_eq_true, Bool.not_eq_true', List.elem_eq_mem, decide_eq_false_iff_not] at h
    exact List.nodup_cons.2 ⟨h.1, ih h.2⟩

/-- what the call has done to the objects -/
def Upd (s s2 : St) : (ps : List PK) → List V → (refT ps).D → Prop
  | .val _ :: ps, vs, r => Upd s s2 ps vs r
  | .ro _ :: ps, _ :: vs, r => Upd s s2 ps vs r
  | .ref τ :: ps, v :: vs, r => (∃ o τo p y y', v = .ptr o τo p ∧ s.ob o = .var τo y ∧ setP p τo y (fun σ => cast? σ r.1) = some y' ∧ s2.ob o = .var τo y') ∧ Upd s s2 ps vs r.2
  | _, _, _ => True

theorem Upd.congr {s s1 s2 : St} : ∀ (ps : List PK) (vs : List V) (r : (refT ps).D), (∀ o, o ∈ refObjs ps vs → s1.ob o = s.ob o) → Upd s1 s2 ps vs r → Upd s s2 ps vs r
  | [], _, _, _, _ => trivial
  | .val _ :: ps, vs, r, h, hu => Upd.congr ps vs r h hu
  | .ro _ :: ps, [], r, h, hu => trivial
  | .ro _ :: ps, _ :: vs, r, h, hu => Upd.congr ps vs r h hu
  | .ref τ :: ps, [], r, h, hu => trivial
  | .ref τ :: ps, v :: vs, r, h, hu => by
    obtain ⟨⟨o, τo, p, y, y', rfl, e1, e2, e3⟩, hu⟩ := hu
    exact ⟨⟨o, τo, p, y, y', rfl, by rw [← h o (by simp [refObjs])]; exact e1, e2, e3⟩, Upd.congr ps vs r.2 (fun o' ho => h o' (by simp [refObjs, ho])) hu⟩

section
variable {F : Frm} {G G' : Gh} {s s' s1 s2 : St} {a : Act} {w w' w1 : World} {T : Tab} {cons : List Con}

theorem refObjs_sub : ∀ (ps : List PK) (us : List Value) (vs : List V), PtsAt G s w ps us vs → ∀ o, o ∈ refObjs ps vs → o ∈ objsOf vs
  | [], us, vs, h, o, ho => by simp [refObjs] at ho
  | .val _ :: ps, us, vs, h, o, ho => by
    obtain ⟨u, us', e, h⟩ := h
    exact refObjs_sub ps us' vs h o ho
  | .ref τ :: ps, us, vs, h, o, ho => by
    obtain ⟨u, us', o1, τo, p, vs', b, off, yo, e1, rfl, e3, e4, e5, e6, e7, e8, h⟩ := h
    simp only [refObjs, List.mem_cons] at ho
    rcases ho with rfl | ho
    · simp [objsOf]
    · simp [objsOf, refObjs_sub ps us' vs' h o ho]
  | .ro τ :: ps, us, vs, h, o, ho => by
    obtain ⟨u, us', o1, τo, p, vs', b, off, e1, rfl, e4, e5, e6, e7, e8, h⟩ := h
    simp only [refObjs] at ho
    simp [objsOf, refObjs_sub ps us' vs' h o ho]

theorem refObjs_nodup : ∀ (ps : List PK) (us : List Value) (vs : List V), PtsAt G s w ps us vs → (objsOf vs).Nodup → (refObjs ps vs).Nodup
  | [], us, vs, h, hn => by simp [refObjs]
  | .val _ :: ps, us, vs, h, hn => by
    obtain ⟨u, us', e, h⟩ := h
    exact refObjs_nodup ps us' vs h hn
  | .ref τ :: ps, us, vs, h, hn => by
    obtain ⟨u, us', o1, τo, p, vs', b, off, yo, e1, rfl, e3, e4, e5, e6, e7, e8, h⟩ := h
    simp only [objsOf, List.nodup_cons] at hn
    exact List.nodup_cons.2 ⟨fun hm => hn.1 (refObjs_sub ps us' vs' h o1 hm), refObjs_nodup ps us' vs' h hn.2⟩
  | .ro τ :: ps, us, vs, h, hn => by
    obtain ⟨u, us', o1, τo, p, vs', b, off, e1, rfl, e4, e5, e6, e7, e8, h⟩ := h
    simp only [objsOf, List.nodup_cons] at hn
    exact refObjs_nodup ps us' vs' h hn.2

theorem spots_at : ∀ (ps : List PK) (us : List Value) (vs : List V), PtsAt G s w ps us vs → ∀ x, x ∈ spots ps us → ∃ o b off τo, o ∈ objsOf vs ∧ G.site o = some (b, off, τo) ∧ x.b = b ∧ off ≤ x.off ∧ x.off + x.n ≤ off + τo.size
  | [], us, vs, h, x, hx => by obtain ⟨rfl, rfl⟩ := h; simp [spots] at hx
  | .val _ :: ps, us, vs, h, x, hx => by
    obtain ⟨u, us', rfl, h⟩ := h
    exact spots_at ps us' vs h x hx
  | .ref τ :: ps, us, vs, h, x, hx => by
    obtain ⟨u, us', o1, τo, p, vs', b, off, yo, rfl, rfl, e3, e4, e5, e6, rfl, e8, h⟩ := h
    simp only [spots, List.mem_cons] at hx
    rcases hx with rfl | hx
    · exact ⟨o1, b, off, τo, by simp [objsOf], e4, rfl, by simp [spotOf], by simp only [spotOf]; omega⟩
    · obtain ⟨o, b, off, τo, k1, k2⟩ := spots_at ps us' vs' h x hx
      exact ⟨o, b, off, τo, by simp [objsOf, k1], k2⟩
  | .ro τ :: ps, us, vs, h, x, hx => by
    obtain ⟨u, us', o1, τo, p, vs', b, off, rfl, rfl, e4, e5, e6, rfl, e8, h⟩ := h
    simp only [spots, List.mem_cons] at hx
    rcases hx with rfl | hx
    · exact ⟨o1, b, off, τo, by simp [objsOf], e4, rfl, by simp [spotOf], by simp only [spotOf]; omega⟩
    · obtain ⟨o, b, off, τo, k1, k2⟩ := spots_at ps us' vs' h x hx
      exact ⟨o, b, off, τo, by simp [objsOf, k1], k2⟩

theorem spots_apart (hs : Sim F G s a w) : ∀ (ps : List PK) (us : List Value) (vs : List V), PtsAt G s w ps us vs → (objsOf vs).Nodup → (spots ps us).Pairwise Spot.apart
  | [], us, vs, h, hn => by obtain ⟨rfl, rfl⟩ := h; simp [spots]
  | .val _ :: ps, us, vs, h, hn => by
    obtain ⟨u, us', rfl, h⟩ := h
    exact spots_apart hs ps us' vs h hn
  | .ref τ :: ps, us, vs, h, hn => by
    obtain ⟨u, us', o1, τo, p, vs', b, off, yo, rfl, rfl, e3, e4, e5, e6, rfl, e8, h⟩ := h
    simp only [objsOf, List.nodup_cons] at hn
    refine List.pairwise_cons.2 ⟨fun x hx => ?_, spots_apart hs ps us' vs' h hn.2⟩
    obtain ⟨o, b2, off2, τo2, k1, k2, k3, k4, k5⟩ := spots_at ps us' vs' h x hx
    have hne : o1 ≠ o := by rintro rfl; exact hn.1 k1
    simp only [Spot.apart, spotOf]
    rcases hs.apart o1 o _ _ _ _ _ _ hne e4 k2 with q | q | q
    · left; rw [k3]; exact q
    · right; left; omega
    · right; right; omega
  | .ro τ :: ps, us, vs, h, hn => by
    obtain ⟨u, us', o1, τo, p, vs', b, off, rfl, rfl, e4, e5, e6, rfl, e8, h⟩ := h
    simp only [objsOf, List.nodup_cons] at hn
    refine List.pairwise_cons.2 ⟨fun x hx => ?_, spots_apart hs ps us' vs' h hn.2⟩
    obtain ⟨o, b2, off2, τo2, k1, k2, k3, k4, k5⟩ := spots_at ps us' vs' h x hx
    have hne : o1 ≠ o := by rintro rfl; exact hn.1 k1
    simp only [Spot.apart, spotOf]
    rcases hs.apart o1 o _ _ _ _ _ _ hne e4 k2 with q | q | q
    · left; rw [k3]; exact q
    · right; left; omega
    · right; right; omega

theorem mus_cons_ref {τ : Ty} {ps : List PK} {u : Value} {us : List Value} {b i : Nat} : mus (.ref τ :: ps) (u :: us) b i ↔ ((spotOf τ u).b = b ∧ (spotOf τ u).off ≤ i ∧ i < (spotOf τ u).off + (spotOf τ u).n) ∨ mus ps us b i := by
  simp only [mus, spotsW, List.mem_cons]
  constructor
  · rintro ⟨x, rfl | hx, h⟩
    · exact .inl h
    · exact .inr ⟨x, hx, h⟩
  · rintro (h | ⟨x, hx, h⟩)
    · exact ⟨_, .inl rfl, h⟩
    · exact ⟨x, .inr hx, h⟩

theorem mus_at : ∀ (ps : List PK) (us : List Value) (vs : List V), PtsAt G s w ps us vs → ∀ b i, mus ps us b i → ∃ o off τ y, o ∈ refObjs ps vs ∧ G.site o = some (b, off, τ) ∧ s.ob o = .var τ y ∧ off ≤ i ∧ i < off + τ.size
  | [], us, vs, h, b, i, hm => by obtain ⟨rfl, rfl⟩ := h; obtain ⟨x, hx, _⟩ := hm; simp [spotsW] at hx
  | .val _ :: ps, us, vs, h, b, i, hm => by
    obtain ⟨u, us', rfl, h⟩ := h
    exact mus_at ps us' vs h b i hm
  | .ref τ :: ps, us, vs, h, b, i, hm => by
    obtain ⟨u, us', o1, τo, p, vs', b1, off, yo, rfl, rfl, e3, e4, e5, e6, rfl, e8, h⟩ := h
    rcases mus_cons_ref.1 hm with ⟨k1, k2, k3⟩ | hm
    · simp only [spotOf] at k1 k2 k3
      subst k1
      exact ⟨o1, off, τo, yo, by simp [refObjs], e4, e3, by omega, by omega⟩
    · obtain ⟨o, off, τ, y, k1, k2⟩ := mus_at ps us' vs' h b i hm
      exact ⟨o, off, τ, y, by simp [refObjs, k1], k2⟩
  | .ro τ :: ps, us, vs, h, b, i, hm => by
    obtain ⟨u, us', o1, τo, p, vs', b1, off, rfl, rfl, e4, e5, e6, rfl, e8, h⟩ := h
    exact mus_at ps us' vs' h b i hm

/-- each object that may be written: what has become of it -/
theorem entry_of (hs : Sim F G s a w) {im' : Nat → Nat → Prop} : ∀ (ps : List PK) (us : List Value) (vs : List V) (r : (refT ps).D), PtsAt G s w ps us vs → (refObjs ps vs).Nodup → Upd s s2 ps vs r → RefsR w' im' ps us r →
    ∀ o, o ∈ refObjs ps vs → ∃ (τo τ : Ty) (p : List PStep) (b off : Nat) (y y' : τo.D) (z : τ.D) (cz : List Value), s.ob o = .var τo y ∧ G.site o = some (b, off, τo) ∧ okP p τo ∧ tyP p τo = some τ ∧ setP p τo y (fun σ => cast? σ z) = some y' ∧ s2.ob o = .var τo y' ∧
      Rep w' im' τ z cz ∧ w'.rangeAt b (off + offP p τo) cz ∧ ∀ i, mus ps us b i → off ≤ i → i < off + τo.size → off + offP p τo ≤ i ∧ i < off + offP p τo + τ.size
  | [], us, vs, r, h, hn, hu, hr, o, ho => by simp [refObjs] at ho
  | .val _ :: ps, us, vs, r, h, hn, hu, hr, o, ho => by
    obtain ⟨u, us', rfl, h⟩ := h
    exact entry_of hs ps us' vs r h hn hu hr o ho
  | .ro τ :: ps, us, vs, r, h, hn, hu, hr, o, ho => by
    obtain ⟨u, us', o1, τo, p, vs', b1, off, rfl, rfl, e4, e5, e6, rfl, e8, h⟩ := h
    exact entry_of hs ps us' vs' r h hn hu hr o ho
  | .ref τ :: ps, us, vs, r, h, hn, hu, hr, o, ho => by
    obtain ⟨u, us', o1, τo, p, vs', b1, off, yo, rfl, rfl, e3, e4, e5, e6, rfl, e8, h⟩ := h
    simp only [refObjs, List.nodup_cons] at hn
    obtain ⟨⟨o', τo', p', y, y', e9, f1, f2, f3⟩, hu⟩ := hu
    cases e9
    obtain ⟨⟨cz, hz, hra⟩, hr⟩ := hr
    simp only [refObjs, List.mem_cons] at ho
    by_cases e : o = o1
    · subst e
      refine ⟨τo, τ, p, b1, off, y, y', r.1, cz, f1, e4, e5, e6, f2, f3, hz, hra, fun i hm k1 k2 => ?_⟩
      rcases mus_cons_ref.1 hm with ⟨_, q2, q3⟩ | hm
      · exact ⟨q2, q3⟩
      · obtain ⟨o2, off2, τ2, y2, m1, m2, m3, m4, m5⟩ := mus_at ps us' vs' h _ i hm
        have hne : o ≠ o2 := by rintro rfl; exact hn.1 m1
        rcases hs.apart o o2 _ _ _ _ _ _ hne e4 m2 with q | q | q
        · exact absurd rfl q
        · omega
        · omega
    · have ho' := ho.resolve_left e
      obtain ⟨τo2, τ2, p2, b2, off2, y2, y2', z, cz2, g1, g2, g3, g4, g5, g6, g7, g8, g9⟩ := entry_of hs ps us' vs' r.2 h hn.2 hu hr o ho'
      refine ⟨τo2, τ2, p2, b2, off2, y2, y2', z, cz2, g1, g2, g3, g4, g5, g6, g7, g8, fun i hm k1 k2 => ?_⟩
      rcases mus_cons_ref.1 hm with ⟨q1, q2, q3⟩ | hm
      · simp only [spotOf] at q1 q2 q3
        subst q1
        rcases hs.apart o1 o _ _ _ _ _ _ (Ne.symm e) e4 g2 with q | q | q
        · exact absurd rfl q
        · omega
        · omega
      · exact g9 i hm k1 k2

theorem ob_len {o : Nat} {τ : Ty} {y : τ.D} (h : s.ob o = .var τ y) : o < s.objs.length := by
  rcases Nat.lt_or_ge o s.objs.length with hl | hl
  · exact hl
  · simp only [St.ob, List.getD_eq_getElem?_getD, List.getElem?_eq_none hl] at h; cases h

theorem giveRefs_path : ∀ (ps : List PK) (vs : List V) (r : (refT ps).D) (k : Cmd) (s : St) (v : V), (refObjs ps vs).Nodup → Path (giveRefs ps vs r k) s v s' →
    ∃ s2, Path k s2 v s' ∧ s2.env = s.env ∧ s2.used = s.used ∧ s2.objs.length = s.objs.length ∧ (∀ o, o ∉ refObjs ps vs → s2.ob o = s.ob o) ∧ Upd s s2 ps vs r
  | [], vs, r, k, s, v, hn, hp => ⟨s, hp, rfl, rfl, rfl, fun _ _ => rfl, trivial⟩
  | .val _ :: ps, vs, r, k, s, v, hn, hp => giveRefs_path ps vs r k s v hn hp
  | .ro _ :: ps, [], r, k, s, v, hn, hp => hp.elim
  | .ro _ :: ps, _ :: vs, r, k, s, v, hn, hp => giveRefs_path ps vs r k s v hn hp
  | .ref τ :: ps, [], r, k, s, v, hn, hp => hp.elim
  | .ref τ :: ps, v0 :: vs, r, k, s, v, hn, hp => by
    simp only [giveRefs, storeD] at hp
    split at hp
    · rename_i o τo p
      simp only [Path] at hp
      simp only [refObjs, List.nodup_cons] at hn
      split at hp
      · rename_i τ1 y hob
        split at hp
        · rename_i y0 hy
          obtain ⟨e1, e2⟩ := cast_some hy
          subst e1; simp only at e2; subst e2
          split at hp
          · rename_i y' hy'
            obtain ⟨s2, h1, h2, h3, h4, h5, h6⟩ := giveRefs_path ps vs r.2 k _ v hn.2 hp
            have hol := ob_len hob
            refine ⟨s2, h1, h2, h3, by rw [h4]; simp [St.setOb], fun o' ho' => ?_, ⟨o, _, p, y, y', rfl, hob, hy', ?_⟩, Upd.congr ps vs r.2 (fun o' ho' => ?_) h6⟩
            · simp only [refObjs, List.mem_cons, not_or] at ho'
              rw [h5 o' ho'.2, St.ob_setOb_ne _ _ _ _ (Ne.symm ho'.1)]
            · rw [h5 o hn.1, St.ob_setOb_same _ _ _ hol]
            · rw [St.ob_setOb_ne]
              rintro rfl; exact hn.1 ho'
          · exact hp.elim
        · exact hp.elim
      · exact hp.elim
    · exact hp.elim

end
end Go.SX

-- SX: Sim22
namespace Go.SX
open Go.RowKit
set_option linter.unusedVariables false
set_option linter.unusedSimpArgs false

def resL (d : Nat) : (rs : List RK) → (q : Ty) → (resT rs q).D → List V
  | [], _, _ => []
  | .val τ :: rs, q, r => .dat τ r.1 :: resL d rs q r.2
  | .own τ w :: rs, q, r => .own τ r.1 w true d :: resL d rs q r.2

theorem resVs_eq (d : Nat) : ∀ (rs : List RK) (q : Ty) (r : (resT rs q).D) (k : List V → q.D → Cmd), resVs d rs q r k = k (resL d rs q r) (restQ rs q r)
  | [], q, r, k => rfl
  | .val τ :: rs, q, r, k => by simp only [resVs]; exact resVs_eq d rs q r.2 _
  | .own τ w :: rs, q, r, k => by simp only [resVs]; exact resVs_eq d rs q r.2 _

/-- data without slices mean the same everywhere -/
theorem Rep.plain {w w' : World} {im im' : Nat → Nat → Prop} : ∀ {τ : Ty} {x : τ.D} {cs : List Value}, hasSlice τ = false → Rep w im τ x cs → Rep w' im' τ x cs
  | .int k, x, cs, hs, h => h
  | .bool, x, cs, hs, h => h
  | .str, x, cs, hs, h => h
  | .snil, x, cs, hs, h => h
  | .scons t r, x, cs, hs, h => by
    simp only [hasSlice, Bool.or_eq_false_iff] at hs
    obtain ⟨c1, c2, rfl, h1, h2⟩ := h
    exact ⟨c1, c2, rfl, h1.plain hs.1, h2.plain hs.2⟩
  | .arr n t, x, cs, hs, h => by
    obtain ⟨hn, css, rfl, h⟩ := h
    exact ⟨hn, css, rfl, h.mono fun a b hab => Rep.plain (τ := t) hs hab⟩
  | .slice t, x, cs, hs, h => by simp [hasSlice] at hs
  | .vec _ _, x, cs, hs, h => h
  | .bld _ _, x, cs, hs, h => h

theorem hasSlice_resT : ∀ (rs : List RK) (q : Ty), hasSlice (resT rs q) = false → hasSlice q = false
  | [], q, h => h
  | .val τ :: rs, q, h => by
    simp only [resT, hasSlice, Bool.or_eq_false_iff] at h
    exact hasSlice_resT rs q h.2
  | .own τ w :: rs, q, h => by
    simp only [resT, hasSlice, Bool.or_eq_false_iff] at h
    exact hasSlice_resT rs q h.2
theorem ownNo_resT : ∀ (rs : List RK) (q : Ty), hasSlice (resT rs q) = false → ownNo rs = 0
  | [], q, h => rfl
  | .val τ :: rs, q, h => by
    simp only [resT, hasSlice, Bool.or_eq_false_iff] at h
    exact ownNo_resT rs q h.2
  | .own τ w :: rs, q, h => by simp [resT, hasSlice, RK.ty] at h

theorem ResR.plain {w : World} {im im' : Nat → Nat → Prop} {base : Nat} : ∀ (rs : List RK) (q : Ty) (r : (resT rs q).D) (vs : List Value), hasSlice (resT rs q) = false → ResR w im base rs q r vs → ResR w im' base rs q r vs
  | [], q, r, vs, hs, h => h
  | .val τ :: rs, q, r, vs, hs, h => by
    simp only [resT, hasSlice, Bool.or_eq_false_iff, RK.ty] at hs
    obtain ⟨v, vs', e, ⟨cs, h1, h1'⟩, h2⟩ := h
    exact ⟨v, vs', e, ⟨cs, h1.plain hs.1, h1'⟩, ResR.plain rs q r.2 vs' hs.2 h2⟩
  | .own τ w :: rs, q, r, vs, hs, h => by simp [resT, hasSlice, RK.ty] at hs
theorem RefsR.plain {w : World} {im im' : Nat → Nat → Prop} : ∀ (ps : List PK) (us : List Value) (r : (refT ps).D), hasSlice (refT ps) = false → RefsR w im ps us r → RefsR w im' ps us r
  | [], us, r, hs, h => trivial
  | .val _ :: ps, [], r, hs, h => trivial
  | .val _ :: ps, _ :: us, r, hs, h => RefsR.plain ps us r hs h
  | .ro _ :: ps, [], r, hs, h => trivial
  | .ro _ :: ps, _ :: us, r, hs, h => RefsR.plain ps us r hs h
  | .ref τ :: ps, [], r, hs, h => trivial
  | .ref τ :: ps, u :: us, r, hs, h => by
    simp only [refT, hasSlice, Bool.or_eq_false_iff] at hs
    obtain ⟨⟨cs, h1, h2⟩, h3⟩ := h
    exact ⟨⟨cs, h1.plain hs.1, h2⟩, RefsR.plain ps us r.2 hs.2 h3⟩

/-- the value that is the callee's own; its place -/
def ownV : List RK → List Value → Value
  | .own _ _ :: _, v :: _ => v
  | .val _ :: rs, _ :: vs => ownV rs vs
  | _, _ => undef
def ownI : List RK → Nat
  | .val _ :: rs => ownI rs + 1
  | _ => 0
def blockOf : Value → Option Nat
  | .slice (some a) _ _ => some a.block
  | _ => none

section
variable {F : Frm} {G G' : Gh} {s s' s1 s2 : St} {a : Act} {w w' w1 : World} {T : Tab} {cons : List Con}

theorem OwnN.own {im : Nat → Nat → Prop} {ow : Nat → Option (Nat × Nat)} {base base' : Nat} {L : Nat × Nat} {τ : Ty} {l : List τ.D} {wf : Bool} {v : Value} (h : OwnN w base im τ l wf v) (hb : base' ≤ base) (ho : ∀ g, blockOf v = some g → base ≤ g → ow g = some L) : OwnR w base' im ow L τ l wf true v := by
  rcases h with h | ⟨g, cap, cur, e, css, h1, h2, h3, h4, h5, h6, h7, h8, h9, h10⟩
  · exact .inl h
  · exact .inr ⟨g, cap, cur, e, (0, 0), css, h1, by omega, ho g (by rw [h1]; rfl) h2, h3, h4, h5, h6, h7, h8, fun i _ hi => by omega, fun _ => rfl, h9, h10⟩

/-- one by one -/
theorem res_each {im : Nat → Nat → Prop} {base d : Nat} : ∀ (rs : List RK) (q : Ty) (r : (resT rs q).D) (vs : List Value), ResR w im base rs q r vs → ownNo rs ≤ 1 → vs.length = (resL d rs q r).length ∧
    ∀ i v, vs[i]? = some v → (∃ τ x, (resL d rs q r)[i]? = some (.dat τ x) ∧ RepV w im τ x v) ∨ (∃ τ l wf, ownNo rs = 1 ∧ i = ownI rs ∧ (resL d rs q r)[i]? = some (.own τ l wf true d) ∧ v = ownV rs vs ∧ OwnN w base im τ l wf v)
  | [], q, r, vs, h, hn => by subst h; exact ⟨rfl, fun i v hv => by simp at hv⟩
  | .val τ :: rs, q, r, vs, h, hn => by
    obtain ⟨v, vs', rfl, h1, h2⟩ := h
    obtain ⟨k1, k2⟩ := res_each (d := d) rs q r.2 vs' h2 hn
    refine ⟨by simp [resL, k1], fun i v' hv => ?_⟩
    cases i with
    | zero => simp at hv; subst hv; exact .inl ⟨τ, _, rfl, h1⟩
    | succ i =>
      simp at hv
      rcases k2 i v' hv with ⟨τ', x, m1, m2⟩ | ⟨τ', l, wf, m0, m1, m2, m3, m4⟩
      · exact .inl ⟨τ', x, by simp [resL, m1], m2⟩
      · exact .inr ⟨τ', l, wf, m0, by simp [ownI, m1], by simp [resL, m2], by simp [ownV, m3], m4⟩
  | .own τ wf :: rs, q, r, vs, h, hn => by
    obtain ⟨v, vs', rfl, h1, h2⟩ := h
    simp only [ownNo] at hn
    have hn0 : ownNo rs = 0 := by omega
    obtain ⟨k1, k2⟩ := res_each (d := d) rs q r.2 vs' h2 (by omega)
    refine ⟨by simp [resL, k1], fun i v' hv => ?_⟩
    cases i with
    | zero => simp at hv; subst hv; exact .inr ⟨τ, _, wf, by simp [ownNo, hn0], rfl, rfl, rfl, h1⟩
    | succ i =>
      simp at hv
      rcases k2 i v' hv with ⟨τ', x, m1, m2⟩ | ⟨τ', l, wf', m0, _⟩
      · exact .inl ⟨τ', x, by simp [resL, m1], m2⟩
      · omega

theorem own_block {im : Nat → Nat → Prop} {base : Nat} : ∀ (rs : List RK) (q : Ty) (r : (resT rs q).D) (vs : List Value), ResR w im base rs q r vs → ∀ g, blockOf (ownV rs vs) = some g → 0 < ownNo rs → g < w.heap.size
  | [], q, r, vs, h, g, hg, hn => by simp [ownNo] at hn
  | .val τ :: rs, q, r, vs, h, g, hg, hn => by
    obtain ⟨v, vs', rfl, h1, h2⟩ := h
    exact own_block rs q r.2 vs' h2 g hg hn
  | .own τ wf :: rs, q, r, vs, h, g, hg, hn => by
    obtain ⟨v, vs', rfl, h1, h2⟩ := h
    rcases h1 with ⟨h1, _⟩ | ⟨g', cap, cur, e, css, h1, h2, h3, _⟩
    · simp only [ownV, h1, blockOf] at hg; cases hg
    · simp only [ownV, h1, blockOf, Option.some.injEq] at hg
      subst hg; exact heap_lt h3

/-- the results' relation, one or many -/
theorem resL_len (d : Nat) : ∀ (rs : List RK) (q : Ty) (r : (resT rs q).D), (resL d rs q r).length = rs.length
  | [], q, r => rfl
  | .val τ :: rs, q, r => by simp [resL, resL_len d rs q r.2]
  | .own τ w :: rs, q, r => by simp [resL, resL_len d rs q r.2]

theorem rel_results {G2 : Gh} {base d : Nat} (rs : List RK) (q : Ty) (r : (resT rs q).D) (vs : List Value) (h : ResR w G2.im base rs q r vs) (hn : ownNo rs ≤ 1) (hlen : rs.length ≤ 1000) (hb : F.W0.heap.size ≤ base)
    (hhd : ownNo rs = 1 → G2.hd d = ownV rs vs) (how : ownNo rs = 1 → ∀ g, blockOf (ownV rs vs) = some g → base ≤ g → G2.ow g = some (d, if vs.length = 1 then 0 else ownI rs + 1)) : RelV F G2 w d (oneV (resL d rs q r)) (retV vs) := by
  obtain ⟨hl, he⟩ := res_each (d := d) rs q r vs h hn
  have hl2 := resL_len d rs q r
  generalize hL : resL d rs q r = L at hl he hl2
  have tup : vs.length ≠ 1 → RelV F G2 w d (.tup L) (.tuple vs.toArray) := by
    intro hne
    refine ⟨vs, rfl, ⟨hl, by omega⟩, fun i => ?_⟩
    cases hv : vs[i]? with
    | none =>
      have : L[i]? = none := by rw [List.getElem?_eq_none_iff] at hv ⊢; omega
      simp only [List.getD_eq_getElem?_getD, this, Option.getD_none]
      trivial
    | some v =>
      simp only [List.getD_eq_getElem?_getD, hv, Option.getD_some]
      rcases he i v hv with ⟨τ, x, m1, m2⟩ | ⟨τ, l, wf, m0, m1, m2, m3, m4⟩
      · rw [m1]; exact m2
      · rw [m2, m1]
        refine ⟨by rw [hhd m0]; exact m3, m4.own hb fun g hg hbg => ?_⟩
        rw [how m0 g (by rw [← m3]; exact hg) hbg, if_neg hne]
  match vs, L, hl with
  | [], [], _ => exact tup (by simp)
  | [v], [x], _ =>
    rcases he 0 v rfl with ⟨τ, x', m1, m2⟩ | ⟨τ, l, wf, m0, m1, m2, m3, m4⟩
    · simp at m1; subst m1
      exact m2
    · simp at m2; subst m2
      exact ⟨by rw [hhd m0]; exact m3, m4.own hb fun g hg hbg => by rw [how m0 g (by rw [← m3]; exact hg) hbg]; rfl⟩
  | v :: v2 :: vs, x :: x2 :: L, _ => exact tup (by simp)

theorem res_names (d n : Nat) : ∀ (rs : List RK) (q : Ty) (r : (resT rs q).D) (i : Nat), namesC n ((resL d rs q r).getD i .undef) → n = d ∧ 0 < ownNo rs
  | [], q, r, i, h => by simp [resL, namesC] at h
  | .val τ :: rs, q, r, i, h => by
    cases i with
    | zero => simp [resL, namesC] at h
    | succ i => exact res_names d n rs q r.2 i (by simpa [resL] using h)
  | .own τ w :: rs, q, r, i, h => by
    refine ⟨?_, by simp [ownNo]⟩
    cases i with
    | zero => simp [resL, namesC] at h; exact h.symm
    | succ i => exact (res_names d n rs q r.2 i (by simpa [resL] using h)).1

theorem res_names' (d n : Nat) (rs : List RK) (q : Ty) (r : (resT rs q).D) (h : names n (oneV (resL d rs q r))) : n = d ∧ 0 < ownNo rs := by
  generalize hL : resL d rs q r = L at h
  have tup : names n (.tup L) → n = d ∧ 0 < ownNo rs := by
    rintro ⟨i, hi⟩
    rw [← hL] at hi
    exact res_names d n rs q r i hi
  match L with
  | [] => exact tup h
  | [x] =>
    refine res_names d n rs q r 0 ?_
    rw [hL]
    show namesC n x
    cases x <;> first | exact h | skip
    rename_i vs
    exfalso
    -- no tuple stands among the results
    have : ∀ (rs : List RK) (q : Ty) (r : (resT rs q).D) (i : Nat) (vs : List V), (resL d rs q r)[i]? ≠ some (.tup vs) := by
      intro rs
      induction rs with
      | nil => intro q r i vs h; simp [resL] at h
      | cons p rs ih =>
        intro q r i vs h
        cases p <;> cases i <;> simp [resL] at h
        · exact ih q r.2 _ vs h
        · exact ih q r.2 _ vs h
    exact this rs q r 0 vs (by rw [hL]; rfl)
  | _ :: _ :: _ => exact tup h


theorem exec_call {o : Oper} {c : Call} {f : FuncId} (ho : o.op = .call c) (hc : c.callee = .value (.func f)) {nx : Next} (h : (callFunc f (c.args.map a.eval)).run F.P w = .ok nx w') : (execOp a.eval o).run F.P w = .ok nx w' := by
  simp [execOp, ho, resolve, hc, Act.eval, Deferred.ofValue, invoke, h]

theorem call_good0 (h : Sim F G s a w) {o : Oper} {c : Call} {con : Con} (ho : o.op = .call c) (hc : c.callee = .value (.func con.f)) (hcon : ConOk0 F.P con) {v : V} (hp : Path (callCmd0 con (o.dst.getD 0) c.args.toList) s v s') : Good F o a w s' v := by
  unfold callCmd0 at hp
  obtain ⟨x, vs, G1, s1, hk, hargs, hpts, hp1⟩ := gather_path con.keeps con.ps c.args.toList h hp
  clear hp
  split at hp1
  · rename_i hnd
    have hnd := nodup_of hnd
    obtain ⟨r, hF, hp2⟩ := hp1
    split at hp2
    · rename_i hno2
      simp only [Bool.and_eq_true] at hno2
      have hno := Nat.le_of_ble_eq_true hno2.1
      have hln := Nat.le_of_ble_eq_true hno2.2
      have h1 := hk.sim
      have himlt : ∀ b i, imK con.keeps G1 b i → b < w.heap.size := by
        intro b i hi
        cases hkp : con.keeps with
        | true => rw [hkp] at hi; exact h1.imlt b i hi
        | false =>
          rw [hkp] at hi
          rcases hi with hi | ⟨L, hL⟩
          · exact h1.imlt b i hi
          · exact (h1.owlt b L hL.1).2
      have hcall := hcon (imK con.keeps G1) w x r (c.args.toList.map a.eval) hF hargs (spots_apart h1 con.ps _ vs hpts hnd) himlt (fun g hg => by
        obtain ⟨q1, q2⟩ := h1.glob g hg
        refine ⟨?_, q2⟩
        cases hkp : con.keeps with
        | true => exact q1
        | false => exact .inl q1)
      have harr : (c.args.toList.map a.eval).toArray = c.args.map a.eval := by apply Array.ext'; rw [Array.toList_map]
      rw [harr] at hcall
      -- whatever the call hands back
      have fin : ∀ (e : Ending) (w' : World), (∃ (vs' : List Value) (im' : Nat → Nat → Prop), e = .returned (retV vs') ∧ Keep (mus con.ps (c.args.toList.map a.eval)) w w' ∧ (∀ b i, imK con.keeps G1 b i → im' b i) ∧
          (∀ b i, im' b i → b < w'.heap.size ∧ (b < w.heap.size → imK con.keeps G1 b i)) ∧ ResR w' im' w.heap.size con.rs (refT con.ps) r vs' ∧ RefsR w' im' con.ps (c.args.toList.map a.eval) (restQ con.rs (refT con.ps) r)) →
          ∃ u, e = .returned u ∧ ∃ G', Sim F G' (putd s' o.dst v) (a.put o.dst u) w' := by
        rintro e w' ⟨vs', im', rfl, k1, k2, k3, k4, k5⟩
        refine ⟨_, rfl, ?_⟩
        -- what is not to be written from now on
        obtain ⟨imN, n1, n2, n3, n4⟩ : ∃ imN : Nat → Nat → Prop, (∀ b i, G1.im b i → imN b i) ∧ (∀ b i, imN b i → b < w'.heap.size ∧ (b < w.heap.size → G1.im b i)) ∧ ResR w' imN w.heap.size con.rs (refT con.ps) r vs' ∧ RefsR w' imN con.ps (c.args.toList.map a.eval) (restQ con.rs (refT con.ps) r) := by
          cases hkp : con.keeps with
          | true =>
            rw [hkp] at k2 k3
            exact ⟨im', k2, k3, k4, k5⟩
          | false =>
            have hs : hasSlice (resT con.rs (refT con.ps)) = false := hkp
            exact ⟨G1.im, fun _ _ h => h, fun b i hi => ⟨by have := h1.imlt b i hi; have := k1.size; omega, fun _ => hi⟩, ResR.plain _ _ _ _ hs k4, RefsR.plain _ _ _ (hasSlice_resT _ _ hs) k5⟩
        let d := o.dst.getD 0
        let G2 : Gh := { G1 with
          im := imN
          hd := fun n => if ownNo con.rs = 1 ∧ n = d then ownV con.rs vs' else G1.hd n
          ow := fun b => if ownNo con.rs = 1 ∧ blockOf (ownV con.rs vs') = some b ∧ w.heap.size ≤ b then some (d, if vs'.length = 1 then 0 else ownI con.rs + 1) else G1.ow b }
        -- the state behind it
        obtain ⟨sf, hfr, hp3⟩ : ∃ sf : St, ((ownNo con.rs = 1 ∧ s1.used.getD d true = false ∧ sf = s1.use d) ∨ (ownNo con.rs = 0 ∧ sf = s1)) ∧ Path (resVs d con.rs (refT con.ps) r fun rs q => giveRefs con.ps vs q (.ok (oneV rs))) sf v s' := by
          cases hb : Nat.beq (ownNo con.rs) 1 with
          | true =>
            rw [hb] at hp2
            obtain ⟨q1, q2⟩ := hp2
            exact ⟨_, .inl ⟨Nat.eq_of_beq_eq_true hb, q1, rfl⟩, q2⟩
          | false =>
            rw [hb] at hp2
            refine ⟨_, .inr ⟨?_, rfl⟩, hp2⟩
            have : ownNo con.rs ≠ 1 := fun e => by rw [e] at hb; cases hb
            omega
        rw [resVs_eq] at hp3
        obtain ⟨s2, hp4, e1, e2, e3, e4, e5⟩ := giveRefs_path con.ps vs _ _ sf v (refObjs_nodup con.ps _ vs hpts hnd) hp3
        obtain ⟨rfl, rfl⟩ := hp4
        have hsf : sf.env = s1.env ∧ sf.objs = s1.objs := by
          rcases hfr with ⟨_, _, rfl⟩ | ⟨_, rfl⟩ <;> exact ⟨rfl, rfl⟩
        have hobf : ∀ o, sf.ob o = s1.ob o := fun o => by simp [St.ob, hsf.2]
        have hused : ∀ n, s1.used.getD n true = true → G2.hd n = G1.hd n := by
          intro n hn
          refine if_neg ?_
          rintro ⟨q1, rfl⟩
          rcases hfr with ⟨_, q2, _⟩ | ⟨q2, _⟩
          · rw [q2] at hn; cases hn
          · omega
        have hca : Called F G1 G2 s1 w w' (mus con.ps (c.args.toList.map a.eval)) := by
          refine ⟨k1, fun b i hm => ?_, n1, n2, fun b hb => if_neg (by omega), fun b L hL => ?_, rfl, hused⟩
          · obtain ⟨o, off, τ, y, _, q1, q2, q3, q4⟩ := mus_at con.ps _ vs hpts b i hm
            exact ⟨o, off, τ, y, q1, q2, q3, q4⟩
          · simp only [G2] at hL
            split at hL
            · rename_i hc
              exact own_block _ _ _ _ n3 b hc.2.1 (by omega)
            · have := (h1.owlt b L hL).2; have := k1.size; omega
        have st := hca.stays h1
        let sg : St := { s1 with objs := s'.objs }
        have hsg : ∀ o, sg.ob o = s'.ob o := fun o => rfl
        have hnames : ∀ n, names n (oneV (resL d con.rs (refT con.ps) r)) → s'.used.getD n true = true := by
          intro n hn
          obtain ⟨rfl, q⟩ := res_names' d n _ _ _ hn
          rcases hfr with ⟨_, q2, e⟩ | ⟨q2, _⟩
          · rw [e2, e]; exact used_same s1 d
          · omega
        have hsim : Sim F G2 sg a w' := by
          refine h1.called (s' := sg) hca rfl rfl (by show s'.objs.length = _; rw [e3, hsf.2]) fun o' => ?_
          by_cases hm : o' ∈ refObjs con.ps vs
          · right
            obtain ⟨τo, τ, p, b, off, y, y', z, cz, m1, m2, m3, m4, m5, m6, m7, m8, m9⟩ := entry_of (s2 := s') h1 con.ps _ vs _ hpts (refObjs_nodup con.ps _ vs hpts hnd) (Upd.congr con.ps vs _ (fun o _ => hobf o) e5) n4 o' hm
            obtain ⟨b0, off0, q1, cs, c0, e6, fz0, q2, q3, q4, q5⟩ := h1.vars o' τo y m1
            rw [m2] at q1; cases q1
            obtain ⟨σ, z', t1, t2, t3⟩ := setP_rep (w := w') (im := imN) p _ _ _ m5
            rw [m4] at t1; cases t1
            obtain ⟨e7, e8⟩ := cast_some t2
            have e8' : z = z' := by simpa using e8
            subst e8'
            obtain ⟨t4, t5⟩ := t3 cs m3 (q2.mono st.cell st.im)
            have hcl := q2.length
            have hzl := m7.length
            rw [hcl] at t4
            refine ⟨τo, y, y', b, off, _, m1, m6, m2, t5 cz m7, fun j u hj => ?_⟩
            obtain ⟨c', r1, r2, r3⟩ := k1.cells b c0 e6 fz0 q3
            have hjl : j < τo.size := by
              have := (t5 cz m7).length
              rcases Nat.lt_or_ge j τo.size with hl | hl
              · exact hl
              · rw [List.getElem?_eq_none (by omega)] at hj; cases hj
            have outside : (j < offP p τo ∨ offP p τo + τ.size ≤ j) → cs[j]? = some u → w'.cell? ⟨b, off + j, none⟩ = some u := by
              intro hout hc
              rw [cell_of_heap r1, r3 (off + j) fun hmm => ?_, q4 j hjl, hc]
              have := m9 (off + j) hmm (by omega) (by omega)
              omega
            by_cases c1 : j < offP p τo
            · refine outside (.inl c1) ?_
              rw [List.append_assoc, List.getElem?_append_left (by rw [List.length_take]; omega), List.getElem?_take, if_pos c1] at hj
              exact hj
            · by_cases c2 : j < offP p τo + τ.size
              · rw [List.append_assoc, List.getElem?_append_right (by rw [List.length_take]; omega), List.getElem?_append_left (by rw [List.length_take]; omega), List.length_take, Nat.min_eq_left (by omega)] at hj
                have := m8 (j - offP p τo) u hj
                rwa [show off + offP p τo + (j - offP p τo) = off + j by omega] at this
              · refine outside (.inr (by omega)) ?_
                rw [List.getElem?_append_right (by rw [List.length_append, List.length_take]; omega), List.getElem?_drop, List.length_append, List.length_take, Nat.min_eq_left (by omega)] at hj
                rw [← hj]; congr 1; omega
          · left
            refine ⟨by rw [hsg, e4 o' hm, hobf], fun b off τ hsite j hj hmm => ?_⟩
            obtain ⟨o2, off2, τ2, y2, m1, m2, m3, m4, m5⟩ := mus_at con.ps _ vs hpts b (off + j) hmm
            have hne : o' ≠ o2 := by rintro rfl; exact hm m1
            rcases h1.apart o' o2 _ _ _ _ _ _ hne hsite m2 with q | q | q
            · exact q rfl
            · omega
            · omega
        have hs2 : Sim F G2 s' a w' := by
          have e6 : s'.env = s1.env := e1.trans hsf.1
          rcases hfr with ⟨_, _, e⟩ | ⟨_, e⟩
          · have : s' = sg.use d := by
              cases s'
              simp only at e2 e6
              simp only [sg, St.use, St.mk.injEq]
              exact ⟨e6, trivial, by rw [e2, e]; rfl⟩
            rw [this]; exact hsim.use d
          · have : s' = sg := by
              cases s'
              simp only at e2 e6
              simp only [sg, St.mk.injEq]
              exact ⟨e6, trivial, by rw [e2, e]⟩
            rw [this]; exact hsim
        refine ⟨G2, hs2.putd o.dst _ _ (fun t ht => ?_) hnames⟩
        have htd : t = d := by show t = o.dst.getD 0; rw [ht]; rfl
        rw [htd]
        refine rel_results con.rs (refT con.ps) r vs' n3 hno hln h1.base (fun h1 => ?_) (fun h1 g hg hbg => ?_)
        · simp [G2, h1]
        · simp only [G2]; rw [if_pos ⟨h1, hg, hbg⟩]
      rcases hcall with ⟨hr, hcl⟩ | ⟨u, w', hr, hpost⟩
      · exact Does.call (exec_call ho hc hr) (hcl.mono fun e w' he => fin e w' he)
      · obtain ⟨u', e, hS⟩ := fin _ w' hpost
        cases e
        exact .value (exec_call ho hc hr) hS
    · exact hp2.elim
  · exact hp1.elim

end
end Go.SX

-- SX: SimB
namespace Go.SX
open Go.RowKit
set_option linter.unusedVariables false
set_option linter.unusedSimpArgs false

theorem rep_bytes {w : World} {im : Nat → Nat → Prop} : ∀ {x : List Int} {css : List (List Value)}, All2 (Rep w im (.int .u8)) x css → css.flatten = x.map (Value.int .u8) ∧ ∀ n ∈ x, IntKind.u8.wrap n = n
  | [], [], _ => ⟨rfl, fun n h => by cases h⟩
  | n :: x, c :: css, h => by
    obtain ⟨e, hn⟩ := h.1
    obtain ⟨h1, h2⟩ := rep_bytes h.2
    refine ⟨by rw [List.flatten_cons, h1, show c = _ from e]; rfl, fun m hm => ?_⟩
    rcases List.mem_cons.1 hm with rfl | hm
    · exact hn
    · exact h2 m hm
theorem bytes_rep {w : World} {im : Nat → Nat → Prop} : ∀ {x : List Int}, (∀ n ∈ x, IntKind.u8.wrap n = n) → All2 (Rep w im (.int .u8)) x (x.map fun n => [Value.int .u8 n]) ∧ (x.map fun n => [Value.int .u8 n]).flatten = x.map (Value.int .u8)
  | [], _ => ⟨trivial, rfl⟩
  | n :: x, h => by
    obtain ⟨h1, h2⟩ := bytes_rep (w := w) (im := im) (x := x) fun m hm => h m (List.mem_cons_of_mem _ hm)
    exact ⟨⟨⟨rfl, h n List.mem_cons_self⟩, h1⟩, by rw [List.map_cons, List.flatten_cons, h2]; rfl⟩

section
variable {F : Frm} {G G' : Gh} {s s' s1 s2 : St} {a : Act} {w w' w1 : World} {T : Tab} {cons : List Con}

/-- what lies there -/
theorem bld_at (h : Sim F G s a w) {o e u n : Nat} {x : List Int} (hob : s.ob o = .vob (.bld e u) x n) :
    ∃ b p v, G.site o = some (b, 0, .bld e u) ∧ w.heap[b]? = some (.cells #[p, v] e (0, 0)) ∧ (p = .pointer none ∨ p = .pointer (some ⟨b, 0, none⟩)) ∧ BufR w u v x ∧ v.ownBlock ≠ some b ∧ F.W0.heap.size ≤ b ∧
      (∀ j, j < 2 → ¬ G.im b j) ∧ (∀ g, v.ownBlock = some g → F.W0.heap.size ≤ g ∧ G.ow g = some (o, OBJ + 1) ∧ g < w.heap.size ∧ ∀ i, ¬ G.im g i) := by
  obtain ⟨b, off, hs, ⟨cs, c, e0, fz, h1, h2, h3, h4, h5, h6⟩, hb⟩ := h.vobs o _ _ _ hob
  obtain ⟨rfl, rfl, h7, rfl, h8⟩ := h6
  obtain ⟨q, aa, cap, rfl⟩ := h1
  have c0 := h3 0 (by simp [Ty.size])
  have c1 := h3 1 (by simp [Ty.size])
  simp only [Nat.zero_add, List.getElem?_cons_zero, List.getElem?_cons_succ] at c0 c1
  have hc : c = #[.pointer q, .slice aa (List.length (α := Int) x) cap] := by
    apply Array.ext_getElem?
    intro i
    match i with
    | 0 => simpa using c0
    | 1 => simpa using c1
    | i + 2 => rw [Array.getElem?_eq_none (by omega)]; rfl
  subst hc
  have hv := h5 _ rfl
  have hp : Value.pointer q = .pointer none ∨ Value.pointer q = .pointer (some ⟨b, 0, none⟩) := by simpa using h8
  have how := h.sow o _ _ _ hs
  have him := (h4 rfl).2
  rcases hv with ⟨e1, e2⟩ | ⟨g, cap', cur, eu, fz, css, e1, e2, e3, e4, e5, e6, e7, e8, e9, ⟨e10, e11, e13⟩, e12⟩
  · subst e2
    refine ⟨b, _, _, hs, h2, hp, ⟨fun n hn => (by cases hn), .inl ⟨e1, rfl⟩⟩, by rw [e1]; simp [Value.ownBlock], hb, fun j hj => by simpa using him j (by simpa [Ty.size] using hj), fun g hg => by rw [e1] at hg; cases hg⟩
  · obtain ⟨r1, r2⟩ := rep_bytes e8
    subst e11
    have hsz : (Ty.int IntKind.u8).size = 1 := rfl
    rw [hsz, Nat.mul_one] at e7 e9
    rw [r1] at e9
    refine ⟨b, _, _, hs, h2, hp, ⟨r2, .inr ⟨g, cap', cur, fz, e1, e4, e10, e5, e6, e7, e9, e13⟩⟩, ?_, hb, fun j hj => by simpa using him j (by simpa [Ty.size] using hj), fun g' hg => ?_⟩
    · rw [e1]
      simp only [Value.ownBlock, ne_eq, Option.some.injEq]
      rintro rfl
      rw [how] at e3; cases e3
    · rw [e1] at hg
      simp only [Value.ownBlock, Option.some.injEq] at hg
      subst hg
      exact ⟨e2, e3, heap_lt e4, e12⟩

/-- a builder behind a call -/
theorem Sim.bld (h : Sim F G s a w) {o e u n b : Nat} {x x' : List Int} {p v p' v' : Value} (hob : s.ob o = .vob (.bld e u) x n) (hs : G.site o = some (b, 0, .bld e u)) (hh : w.heap[b]? = some (.cells #[p, v] e (0, 0)))
    (hbase : F.W0.heap.size ≤ b) (him : ∀ j, j < 2 → ¬ G.im b j) (hvg : ∀ g, v.ownBlock = some g → F.W0.heap.size ≤ g ∧ G.ow g = some (o, OBJ + 1) ∧ g < w.heap.size ∧ ∀ i, ¬ G.im g i)
    (hh' : w'.heap[b]? = some (.cells #[p', v'] e (0, 0))) (hp' : p' = .pointer none ∨ p' = .pointer (some ⟨b, 0, none⟩)) (hb' : BufR w' u v' x') (hvb' : v'.ownBlock ≠ some b) (hvo : ∀ k, v'.ownBlock = some k → k < w.heap.size → v.ownBlock = some k) (ho : Others b v w w') :
    ∃ G', Sim F G' (s.setOb o (.vob (.bld e u) x' n)) a w' ∧ G'.im = G.im ∧ G'.hd = G.hd ∧ G'.site = G.site := by
  have how := h.sow o _ _ _ hs
  have hblt := heap_lt hh
  have hol : o < s.objs.length := by
    rcases Nat.lt_or_ge o s.objs.length with hl | hl
    · exact hl
    · simp only [St.ob, List.getD_eq_getElem?_getD, List.getElem?_eq_none hl] at hob; cases hob
  let G1 : Gh := { G with ow := fun k => if v'.ownBlock = some k then some (o, OBJ + 1) else if v.ownBlock = some k then none else G.ow k }
  have nv : ∀ g L, G.ow g = some L → L ≠ (o, OBJ + 1) → v.ownBlock ≠ some g ∧ v'.ownBlock ≠ some g := by
    intro g L hL hne
    have h1 : v.ownBlock ≠ some g := fun e1 => by
      rw [(hvg g e1).2.1] at hL; cases hL; exact hne rfl
    exact ⟨h1, fun e1 => h1 (hvo g e1 (h.owlt g L hL).2)⟩
  have st : Stays (fun L => L = (o, OBJ + 1)) G G1 w w' := by
    refine ⟨fun b' i u' hi hc => ?_, fun _ _ h => h, fun g L hL hX => ?_, fun _ _ h => h⟩
    · by_cases e1 : b' = b
      · subst e1
        rw [cell_of_heap hh] at hc
        have : i < 2 := by
          rcases Nat.lt_or_ge i 2 with hl | hl
          · exact hl
          · rw [Array.getElem?_eq_none (by simpa using hl)] at hc; cases hc
        exact absurd hi (him i this)
      · have hlt := cell_lt hc
        rw [World.cell?_of_block (w := w) (ho.block b' hlt e1 fun e2 => (hvg b' e2).2.2.2 i hi)]; exact hc
    · obtain ⟨n1, n2⟩ := nv g L hL hX
      refine ⟨by simp only [G1, if_neg n2, if_neg n1]; exact hL, ho.block g (h.owlt g L hL).2 ?_ n1, fun _ h => h⟩
      rintro rfl; rw [how] at hL; cases hL
  have sv : ∀ o' b' off' τ', G.site o' = some (b', off', τ') → v.ownBlock ≠ some b' ∧ v'.ownBlock ≠ some b' := by
    intro o' b' off' τ' hs'
    have h1 : v.ownBlock ≠ some b' := fun e1 => by
      have := (hvg b' e1).2.1
      rw [h.sow o' _ _ _ hs'] at this; cases this
    exact ⟨h1, fun e1 => h1 (hvo b' e1 (site_lt h hs'))⟩
  -- other objects' cells
  have blk : ∀ o' b' off' τ' c e' fz, o' ≠ o → G.site o' = some (b', off', τ') → w.heap[b']? = some (.cells c e' fz) → ∃ c', w'.heap[b']? = some (.cells c' e' fz) ∧ c'.size = c.size ∧ ∀ j, j < τ'.size → c'[off' + j]? = c[off' + j]? := by
    intro o' b' off' τ' c e' fz hne hs' hc
    by_cases e1 : b' = b
    · subst e1
      rw [hh] at hc; cases hc
      refine ⟨_, hh', rfl, fun j hj => ?_⟩
      have : 2 ≤ off' + j := by
        rcases h.apart o' o _ _ _ _ _ _ hne hs' hs with q | q | q
        · exact absurd rfl q
        · omega
        · simp only [Ty.size] at q; omega
      rw [Array.getElem?_eq_none (by simpa using this), Array.getElem?_eq_none (by simpa using this)]
    · exact ⟨c, by rw [ho.block b' (heap_lt hc) e1 (sv _ _ _ _ hs').1]; exact hc, rfl, fun _ _ => rfl⟩
  have obs : ∀ o' b' off' τ' z wr, o' ≠ o → G.site o' = some (b', off', τ') → ObR F G w b' off' τ' z wr → ObR F G1 w' b' off' τ' z wr := by
    rintro o' b' off' τ' z wr hne hs' ⟨cz, c, e', fz, k1, k2, k3, k4⟩
    obtain ⟨c', m1, m2, m3⟩ := blk o' b' off' τ' c e' fz hne hs' k2
    exact ⟨cz, c', e', fz, k1.mono st.cell st.im, m1, fun j hj => by rw [m3 j hj]; exact k3 j hj, k4⟩
  have hne : ∀ t i, i ≤ 1000 → ¬ ((t, i) = (o, OBJ + 1)) := fun t i hi e1 => by injection e1 with e1 e2; unfold OBJ at e2; omega
  refine ⟨G1, ⟨h.defers, h.tmps, h.env, by simp [St.setOb, h.obl], h.usl, ?_, fun t => (h.vals t).mono st (fun i hi => hne t i hi) fun _ _ => rfl, ?_, ?_, ?_, ?_, h.apart, ?_, ?_, h.imb, h.im0, ?_, h.used⟩, rfl, rfl, rfl⟩
  · refine ⟨ho.os.trans h.keep.os, ho.tape.trans h.keep.tape, ho.output.trans h.keep.output, Nat.le_trans h.keep.size ho.size, fun k hk hn => ?_, fun k c e' fz hc => ?_⟩
    · rw [ho.block k (Nat.lt_of_lt_of_le hk h.keep.size) (by omega) fun e1 => by have := (hvg k e1).1; omega]; exact h.keep.block k hk hn
    · have hk := heap_lt hc
      obtain ⟨c', m1, m2, m3⟩ := h.keep.cells k c e' fz hc
      exact ⟨c', by rw [ho.block k (Nat.lt_of_lt_of_le hk h.keep.size) (by omega) fun e1 => by have := (hvg k e1).1; omega]; exact m1, m2, m3⟩
  · intro o' τ' z hz
    by_cases e1 : o' = o
    · subst e1; rw [St.ob_setOb_same _ _ _ hol] at hz; cases hz
    · rw [St.ob_setOb_ne _ _ _ _ (Ne.symm e1)] at hz
      obtain ⟨b', off', k1, k2⟩ := h.vars o' τ' z hz
      exact ⟨b', off', k1, obs o' _ _ _ _ _ e1 k1 k2⟩
  · intro o' τ' z hz
    by_cases e1 : o' = o
    · subst e1; rw [St.ob_setOb_same _ _ _ hol] at hz; cases hz
    · rw [St.ob_setOb_ne _ _ _ _ (Ne.symm e1)] at hz
      obtain ⟨b', off', k1, k2⟩ := h.ros o' τ' z hz
      exact ⟨b', off', k1, obs o' _ _ _ _ _ e1 k1 k2⟩
  · intro o' τ' z k hz
    by_cases e1 : o' = o
    · subst e1
      rw [St.ob_setOb_same _ _ _ hol] at hz; cases hz
      obtain ⟨q, hq⟩ : ∃ q, p' = .pointer q := by rcases hp' with rfl | rfl <;> exact ⟨_, rfl⟩
      obtain ⟨aa, cap, hv'⟩ : ∃ aa cap, v' = .slice aa x'.length cap := by
        rcases hb'.2 with ⟨rfl, rfl⟩ | ⟨g, cap, cur, fz, rfl, _⟩ <;> exact ⟨_, _, rfl⟩
      refine ⟨b, 0, hs, ⟨[p', v'], _, _, _, ⟨q, aa, cap, by rw [hq, hv']⟩, hh', fun j hj => ?_, fun _ => ⟨fun j hj => by simp, fun j hj => ?_⟩, ?_, rfl, rfl, rfl, rfl, ?_⟩, hbase⟩
      · match j, hj with
        | 0, _ => rfl
        | 1, _ => rfl
        | j + 2, hj => simp only [Ty.size] at hj; omega
      · simp only [Ty.size] at hj
        rw [Nat.zero_add]; exact him j hj
      · intro v2 hv2
        simp only [Nat.zero_add, List.getElem?_cons_succ, List.getElem?_cons_zero, Option.some.injEq] at hv2
        subst hv2
        obtain ⟨hw8, hb'⟩ := hb'
        rcases hb' with hb' | ⟨g, cap2, cur, fz, r1, r2, r3, r4, r5, r6, r7, r8⟩
        · exact .inl hb'
        · obtain ⟨t1, t2⟩ := bytes_rep (w := w') (im := G.im) hw8
          have hob' : v'.ownBlock = some g := by rw [r1]; rfl
          refine .inr ⟨g, cap2, cur, u, fz, _, r1, ?_, by simp only [G1, if_pos hob'], r2, r4, r5, by rw [r6]; simp [Ty.size], t1, ?_, ⟨r3, rfl, r8⟩, fun i hi => ?_⟩
          · rcases Nat.lt_or_ge g w.heap.size with hl | hl
            · exact (hvg g (hvo g hob' hl)).1
            · exact Nat.le_trans h.base hl
          · rw [t2, ← r7]; simp [Ty.size]
          · rcases Nat.lt_or_ge g w.heap.size with hl | hl
            · exact (hvg g (hvo g hob' hl)).2.2.2 i hi
            · have := h.imlt g i hi; omega
      · simpa using hp'
    · rw [St.ob_setOb_ne _ _ _ _ (Ne.symm e1)] at hz
      obtain ⟨b', off', k1, k2, k3⟩ := h.vobs o' τ' z k hz
      exact ⟨b', off', k1, k2.mono st (fun j hj => e1 (congrArg Prod.fst hj)) (fun c e' fz hc => blk o' b' off' τ' c e' fz e1 k1 hc) fun _ _ h => h, k3⟩
  · refine ⟨fun o' ho' => ?_, fun o' y hy => ?_⟩
    · by_cases e1 : o' = o
      · subst e1; rw [St.ob_setOb_same _ _ _ hol] at ho'; cases ho'
      · rw [St.ob_setOb_ne _ _ _ _ (Ne.symm e1)] at ho'; exact h.dead.1 o' ho'
    · obtain ⟨k1, k2, k3, k4⟩ := h.dead.2 o' y hy
      refine ⟨k1, k2, ?_, k4⟩
      by_cases e1 : o' = o
      · subst e1; rw [St.ob_setOb_same _ _ _ hol]; intro e; cases e
      · rw [St.ob_setOb_ne _ _ _ _ (Ne.symm e1)]; exact k3
  · intro o' b' off' τ' hs'
    obtain ⟨n1, n2⟩ := sv _ _ _ _ hs'
    simp only [G1, if_neg n2, if_neg n1]; exact h.sow o' _ _ _ hs'
  · intro b' i hi; exact Nat.lt_of_lt_of_le (h.imlt b' i hi) ho.size
  · intro g L hL
    simp only [G1] at hL
    split at hL
    · rename_i e1
      cases hL
      refine ⟨fun hlt => absurd hlt (by simp [OBJ]), ?_⟩
      rcases hb'.2 with ⟨rfl, _⟩ | ⟨g', cap, cur, fz, rfl, r2, _⟩
      · cases e1
      · simp only [Value.ownBlock, Option.some.injEq] at e1; subst e1; exact heap_lt r2
    · split at hL
      · cases hL
      · exact ⟨(h.owlt g L hL).1, Nat.lt_of_lt_of_le (h.owlt g L hL).2 ho.size⟩

theorem bldOf_path (h : Sim F G s a w) {e u : Nat} {v : V} {k : Nat → List Int → Nat → Cmd} {r : V} (hp : Path (bldOf e u v k) s r s') : ∃ o x n, v = .ptr o (.bld e u) [] ∧ s.ob o = .vob (.bld e u) x n ∧ Path (k o x n) s r s' := by
  unfold bldOf at hp
  split at hp
  · rename_i o e1 u1
    simp only [Path] at hp
    split at hp
    · rename_i e2 u2 x n hob
      split at hp
      · rename_i hb
        simp only [Bool.and_eq_true] at hb
        have q1 := Nat.eq_of_beq_eq_true hb.1.1
        have q2 := Nat.eq_of_beq_eq_true hb.1.2
        have q3 := Nat.eq_of_beq_eq_true hb.2.1
        have q4 := Nat.eq_of_beq_eq_true hb.2.2
        subst q1 q2 q3 q4
        exact ⟨o, x, n, rfl, hob, hp⟩
      · exact hp.elim
    · exact hp.elim
  · exact hp.elim

theorem bldD_inj {x y : ByteArray} (h : bytesD x = bytesD y) : x = y := by
  have := bytesD_inj (x := x) (y := y)
  rw [h] at this
  simp only [beq_self_eq_true] at this
  have h2 := beq_iff_eq.1 this.symm
  rw [ByteArray.toList_eq, ByteArray.toList_eq] at h2
  cases x; cases y
  congr 1
  exact Array.ext' h2

theorem bldCall_good (h : Sim F G s a w) {o : Oper} {c : Call} {f bk e u : Nat} (ho : o.op = .call c) (hc : c.callee = .value (.func f)) (hok : BldOk F.P f bk e u) {v : V} (hp : Path (bldCmd bk e u c.args.toList) s v s') : Good F o a w s' v := by
  -- what the call comes to
  have call : ∀ (ob n : Nat) (x x' : List Int) (args : List Value) (s2 : St), s.ob ob = .vob (.bld e u) x n → c.args.map a.eval = ((match G.site ob with | some (b, off, _) => Value.pointer (some ⟨b, off, none⟩) | none => undef) :: args).toArray → BldCall bk x args x' →
      (∀ G' w' ret, Sim F G' (s.setOb ob (.vob (.bld e u) x' n)) a w' → (bk = 3 → ∃ bs, ret = .string bs ∧ bytesD bs = x ∧ bs.size ≤ maxLen) → ∃ G2, Sim F G2 (putd s' o.dst v) (a.put o.dst ret) w') → Good F o a w s' v := by
    intro ob n x x' args s2 hob hargs hbc hfin
    obtain ⟨b, p, v0, k1, k2, k3, k4, k5, k6, k7, k8⟩ := bld_at h hob
    rw [k1] at hargs
    have hcall := hok w b p v0 x args x' k2 k3 k4 k5 hbc
    rw [← hargs] at hcall
    have fin : ∀ (en : Ending) (w' : World), (∃ ret p' v', en = .returned ret ∧ (bk = 3 → ∃ bs, ret = .string bs ∧ bytesD bs = x ∧ bs.size ≤ maxLen) ∧
        w'.heap[b]? = some (.cells #[p', v'] e (0, 0)) ∧ (p' = .pointer none ∨ p' = .pointer (some ⟨b, 0, none⟩)) ∧ BufR w' u v' x' ∧ v'.ownBlock ≠ some b ∧ (∀ k, v'.ownBlock = some k → k < w.heap.size → v0.ownBlock = some k) ∧ Others b v0 w w') →
        ∃ u', en = .returned u' ∧ ∃ G', Sim F G' (putd s' o.dst v) (a.put o.dst u') w' := by
      rintro en w' ⟨ret, p', v', rfl, m1, m2, m3, m4, m5, m6, m7⟩
      obtain ⟨G', n1, n2, n3, n4⟩ := h.bld hob k1 k2 k6 k7 k8 m2 m3 m4 m5 m6 m7
      exact ⟨ret, rfl, hfin G' w' ret n1 m1⟩
    rcases hcall with ⟨hr, hcl⟩ | ⟨u', w', hr, hpost⟩
    · exact Does.call (exec_call ho hc hr) (hcl.mono fun en w' he => fin en w' he)
    · obtain ⟨u2, e1, hS⟩ := fin _ w' hpost
      cases e1
      exact .value (exec_call ho hc hr) hS
  have harr : c.args.map a.eval = (c.args.toList.map a.eval).toArray := by apply Array.ext'; rw [Array.toList_map]
  unfold bldCmd at hp
  split at hp
  · rename_i xa xb hxs
    obtain ⟨va, ta, hva, hp1⟩ := vget_path h hp
    clear hp
    obtain ⟨vb, tb, hvb, hp2⟩ := vget_path h hp1
    clear hp1
    obtain ⟨ob, x, n, rfl, hob, hp3⟩ := bldOf_path h hp2
    clear hp2
    obtain ⟨b, off, hsite, hok2, hval⟩ := hva.rel
    have hev : a.eval xa = (match G.site ob with | some (b, off, _) => Value.pointer (some ⟨b, off, none⟩) | none => undef) := by rw [hsite, hval]; simp [offP]
    split at hp3
    · rename_i sx hb1 
      have hbk := Nat.eq_of_beq_eq_true hb1
      obtain ⟨bs, e1, e2, e3⟩ := dat_str hvb.rel
      obtain ⟨hf, rfl, rfl⟩ := hp3
      have hfl := fits_lt hf
      refine call ob n x (x ++ sx) [.string bs] s hob (by rw [harr, hxs]; simp [hev, e1]) (.inl ⟨hbk, bs, rfl, by rw [e2], by rw [← bytesD_len, e2]; exact hfl⟩) fun G' w' ret hS _ => ⟨G', hS.putd o.dst .undef ret (fun _ _ => trivial) fun m hm => hm.elim⟩
    · rename_i cc hb2
      have hbk := Nat.eq_of_beq_eq_true hb2
      obtain ⟨e1, e2⟩ := dat_int hvb.rel
      obtain ⟨hf, rfl, rfl⟩ := hp3
      have hfl := fits_lt hf
      refine call ob n x (x ++ [cc]) [.int .u8 cc] s hob (by rw [harr, hxs]; simp [hev, e1]) (.inr (.inl ⟨hbk, cc, rfl, e2, rfl, hfl⟩)) fun G' w' ret hS _ => ⟨G', hS.putd o.dst .undef ret (fun _ _ => trivial) fun m hm => hm.elim⟩
    · exact hp3.elim
  · rename_i xa hxs
    obtain ⟨va, ta, hva, hp1⟩ := vget_path h hp
    clear hp
    obtain ⟨ob, x, n, rfl, hob, hp3⟩ := bldOf_path h hp1
    clear hp1
    obtain ⟨b, off, hsite, hok2, hval⟩ := hva.rel
    have hev : a.eval xa = (match G.site ob with | some (b, off, _) => Value.pointer (some ⟨b, off, none⟩) | none => undef) := by rw [hsite, hval]; simp [offP]
    split at hp3
    · rename_i hb3
      have hbk := Nat.eq_of_beq_eq_true hb3
      obtain ⟨rfl, rfl⟩ := hp3
      refine call ob n x x [] s' hob (by rw [harr, hxs]; simp [hev]) (.inr (.inr ⟨hbk, rfl, rfl⟩)) fun G' w' ret hS hret => ?_
      obtain ⟨bs, rfl, e2, e3⟩ := hret hbk
      have hsame : s'.setOb ob (.vob (.bld e u) x n) = s' := by
        have : s'.objs.getD ob .none = .vob (.bld e u) x n := hob
        cases s' with
        | mk env objs used =>
          simp only [St.setOb, St.mk.injEq, true_and, and_true]
          apply List.ext_getElem?
          intro i
          by_cases hi : ob = i
          · subst hi
            simp only [List.getD_eq_getElem?_getD] at this
            by_cases hl : ob < objs.length
            · rw [List.getElem?_set_self hl, ← this, List.getElem?_eq_getElem hl]; simp
            · rw [List.set_eq_of_length_le (by omega)]
          · rw [List.getElem?_set_ne hi]
      rw [hsame] at hS
      refine ⟨G', hS.putd o.dst (.dat .str x) _ (fun _ _ => ?_) fun m hm => hm.elim⟩
      rw [← e2]; exact mk_str bs e3
    · exact hp3.elim
  · exact hp.elim

theorem call_good (h : Sim F G s a w) {o : Oper} {c : Call} {con : Con} (ho : o.op = .call c) (hc : c.callee = .value (.func con.f)) (hcon : ConOk F.P con) {v : V} (hp : Path (callCmd con (o.dst.getD 0) c.args.toList) s v s') : Good F o a w s' v := by
  unfold callCmd at hp
  unfold ConOk at hcon
  cases hb : Nat.beq con.bk 0 with
  | true =>
    rw [hb] at hp hcon
    exact call_good0 h ho hc hcon hp
  | false =>
    rw [hb] at hp hcon
    simp only at hp hcon
    split at hp
    · rename_i e u hps
      rw [hps] at hcon
      exact bldCall_good h ho hc hcon hp
    · exact hp.elim
end
end Go.SX
