/- The typed evaluator of the model's code and its soundness, part 3: what is used to prove the law; it has no condition. -/
import Derived.Test.YtmblgpbcclpgjaaDoorSxK2
import Derived.Shelf.Strings.BuilderK
import Derived.Orders
import Derived.Deep.LoopGhost
import Derived.ProofKit
import Derived.OpenShut
import Derived.Deep.Slices
import Derived.OpenVars
import Derived.HandedShaped
import Derived.Shelf.Vars
import Derived.Lib.Bytealg
import Derived.Lib.Join
import Derived.Shelf.Strings.OnBuilder
import Derived.Shelf.Strings.Repeat
-- SX: Bld
set_option linter.unusedVariables false
set_option linter.unusedSimpArgs false
namespace Go.SX
open Go.RowKit Go.Shelf Go.Proofs
variable {P : Program} {ρ : Ren}

theorem bufR_own {w : World} {u : Nat} {v : Value} {x : List Int} (h : BufR w u v x) : w.ownsRowF 0 u 1 v x.length (x.map (Value.int .u8)) := by
  obtain ⟨_, h⟩ := h
  refine ⟨by simp, ?_⟩
  rcases h with ⟨rfl, rfl⟩ | ⟨g, cap, cur, fz, h1, h2, h3, h4, h5, h6, h7, h8⟩
  · exact .inl ⟨rfl, rfl⟩
  · exact .inr ⟨g, cap, cur, fz, h1, Nat.zero_le _, h2, by omega, h4, h5, by omega, by rw [Nat.mul_one]; exact h7⟩
theorem own_bufR {w : World} {u : Nat} {v : Value} {x : List Int} (hx : ∀ n ∈ x, IntKind.u8.wrap n = n) (hnil : x = [] → v = .slice none 0 0) (h : w.ownsRowF 0 u 1 v x.length (x.map (Value.int .u8))) : BufR w u v x := by
  refine ⟨hx, ?_⟩
  rcases h.2 with ⟨h1, h2⟩ | ⟨g, cap, cur, fz, h1, _, h2, h3, h4, h5, h6, h7⟩
  · exact .inl ⟨h1, List.eq_nil_of_length_eq_zero h2⟩
  · exact .inr ⟨g, cap, cur, fz, h1, h2, by omega, h4, h5, by omega, by rw [Nat.mul_one] at h7; exact h7, fun e => by rw [hnil e] at h1; cases h1⟩
theorem strCells_bytes (s : ByteArray) : Lib.strCells s = (bytesD s).map (Value.int .u8) := by
  unfold Lib.strCells bytesD
  simp [List.map_map, Function.comp_def]
theorem bytesD_wrap (s : ByteArray) : ∀ n ∈ bytesD s, IntKind.u8.wrap n = n := by
  intro n hn
  unfold bytesD at hn
  obtain ⟨c, _, rfl⟩ := List.mem_map.1 hn
  have := c.toNat_lt
  simp [IntKind.wrap, IntKind.bits, IntKind.signed]
  omega

/-- where the buffer lies behind an append -/
theorem block_str {w : World} (t u ty e : TypeId) (i : TypeInfo) (ht : P.underlying t = some (.slice e)) (hu : P.underlying u = some .string) (hi : P.info? e = some i) (hz : i.zero = some (.int .u8 0)) (hsize : i.size = 1) (hby : i.bytes = 1)
    (v : Value) (n : Nat) (xs : List Value) (hown : w.ownsRowF 0 e 1 v n xs) (s : ByteArray) (h63 : n + s.size ≤ maxLen) (hbytes : n + s.size ≤ 140737488355328) {v' : Value} {w' : World}
    (hr : (Builtin.append_ #[t, u] ty #[v, .string s]).run P w = .ok v' w') (hnil : v' = .slice none 0 0 ↔ v = .slice none 0 0 ∧ s.size = 0) : ∀ k, v'.ownBlock = some k → k < w.heap.size → v.ownBlock = some k := by
  intro k hk hlt
  have hsmall : n + s.size ≤ 9223372036854775807 := by simp only [maxLen] at h63; omega
  have hxl : xs.length = n := by simpa using hown.1
  rcases hown.2 with ⟨rfl, rfl⟩ | ⟨g, cap, cur, fz, rfl, _, hg, hfz, hnc, hcm, hcs, htake⟩
  · by_cases h0 : s.size = 0
    · rw [hnil.2 ⟨rfl, h0⟩] at hk; cases hk
    · obtain ⟨v2, w2, h1, h2, _⟩ := Lib.run_append_own_string (P := P) w w.heap.size t u ty e i ht hu hi hz hsize hby (.slice none 0 0) 0 [] ⟨by simp, .inl ⟨rfl, rfl⟩⟩ s h63 hbytes (Nat.le_refl _)
      rw [hr] at h1
      cases h1
      have := (h2.lt k hk).1
      omega
  · by_cases hroom : n + s.size ≤ cap
    · have h1 := Lib.run_append_room_stringF (P := P) w t u ty e i ht hu hi hsize g n cap cur fz hg (by simpa using hfz) s hroom (by omega)
      rw [hr] at h1
      cases h1
      exact hk
    · have holds : ∀ j u, xs[j]? = some u → w.cell? ((⟨g, 0, none⟩ : Addr).add j) = some u := hown.cells (g := g) rfl
      have h1 := Lib.run_append_grow_string (P := P) w t u ty e i (.int .u8 0) ht hu hi hz ⟨g, 0, none⟩ n cap xs (by rw [hsize]; simpa using hxl) holds s (by omega) (by omega) (by rw [hby]; exact growslice_fits (by omega) (by omega))
      rw [hr] at h1
      cases h1
      simp only [Value.ownBlock, Option.some.injEq] at hk
      omega

theorem block_one {w : World} (t ty e : TypeId) (i : TypeInfo) (ht : P.underlying t = some (.slice e)) (hi : P.info? e = some i) (hz : i.zero = some (.int .u8 0)) (hsize : i.size = 1) (hby : i.bytes = 1)
    (v : Value) (n : Nat) (xs : List Value) (hown : w.ownsRowF 0 e 1 v n xs) (a : Addr) (c : Int) (hc : w.cell? a = some (.int .u8 c)) (h63 : n + 1 ≤ maxLen) (hbytes : n + 1 ≤ 140737488355328) {v' : Value} {w' : World}
    (hr : (Builtin.append_ #[t, t] ty #[v, .slice (some a) 1 1]).run P w = .ok v' w') : ∀ k, v'.ownBlock = some k → k < w.heap.size → v.ownBlock = some k := by
  intro k hk hlt
  have hsmall : n + 1 ≤ 9223372036854775807 := by simp only [maxLen] at h63; omega
  have hxl : xs.length = n := by simpa using hown.1
  have hn : ∀ (j : Nat) (u : Value), [Value.int .u8 c][j]? = some u → w.cell? (a.add j) = some u := by
    intro j u hj
    match j, hj with
    | 0, hj => simp at hj; subst hj; simpa [Addr.add] using hc
  have src : Src P i.size t (.slice (some a) 1 1) 1 [.int .u8 c] w := Src.ofSlice w ht a 1 1 _ (by rw [hsize]; rfl) hn (by intro u hu; simp at hu; subst hu; rfl)
  rcases hown.2 with ⟨rfl, rfl⟩ | ⟨g, cap, cur, fz, rfl, _, hg, hfz, hnc, hcm, hcs, htake⟩
  · have h1 := run_append_grow_src (P := P) w t t ty e i (.int .u8 0) ht hi hz none 0 0 [] (run_firstCells_none w.drew i.size 0 0 0) _ 1 _ src (by omega) (by omega) (by rw [hby]; exact growslice_fits (by omega) (by omega))
    rw [hr] at h1
    cases h1
    simp only [Value.ownBlock, Option.some.injEq] at hk
    omega
  · by_cases hroom : n + 1 ≤ cap
    · have h1 := run_append_roomF (P := P) w t ty e i ht hi g n cap cur fz hg (by rw [hsize]; simpa using hfz) a 1 1 [.int .u8 c] (by rw [hsize]; rfl) hn (by intro u hu; simp at hu; subst hu; rfl) hroom (by simp [hsize]; omega)
      rw [hr] at h1
      cases h1
      exact hk
    · have holds : ∀ j u, xs[j]? = some u → w.cell? ((⟨g, 0, none⟩ : Addr).add j) = some u := hown.cells (g := g) rfl
      have h1 := run_append_grow (P := P) w t ty e i (.int .u8 0) ht hi hz ⟨g, 0, none⟩ n cap xs (by rw [hsize]; simpa using hxl) holds a 1 1 [.int .u8 c] (by rw [hsize]; rfl) hn (by omega) (by omega) (by rw [hby]; exact growslice_fits (by omega) (by omega))
      rw [hr] at h1
      cases h1
      simp only [Value.ownBlock, Option.some.injEq] at hk
      omega

section
variable {w : World}
/-- the two appends, for the walk -/
theorem wp_str {ops : Array Oper} {rest : List Oper} {o : Oper} {a : Act} {Q : Exit → Act → World → Prop} (hgd : o.guard = none) (sl x : Operand) (t u : TypeId)
    (ho : o.op = .call { callee := .builtin .append, args := #[sl, x], argTypes := #[t, u] }) (e : TypeId) (i : TypeInfo) (ht : P.underlying t = some (.slice e)) (hu : P.underlying u = some .string) (hi : P.info? e = some i) (hz : i.zero = some (.int .u8 0)) (hsize : i.size = 1) (hby : i.bytes = 1)
    (v : Value) (n : Nat) (xs : List Value) (hs : a.eval sl = v) (hown : w.ownsRowF 0 e 1 v n xs) (s : ByteArray) (hx : a.eval x = .string s) (h63 : n + s.size ≤ maxLen) (hbytes : n + s.size ≤ 140737488355328)
    (h : ∀ v' w', w'.ownsRowF 0 e 1 v' (n + s.size) (xs ++ Lib.strCells s) → w.grownBy w' v.ownBlock → (∀ k, v'.ownBlock = some k → k < w.heap.size → v.ownBlock = some k) → (v = .slice none 0 0 → s.size = 0 → v' = .slice none 0 0) → wpList P ops Q rest (a.put o.dst v') w') : wpList P ops Q (o :: rest) a w := by
  refine wpList_plain hgd fun K hK => ?_
  obtain ⟨v', w', hr, h2, h3, h4⟩ := Lib.run_append_own_stringF (P := P) w 0 t u o.type e i ht hu hi hz hsize hby v n xs hown s h63 hbytes (Nat.zero_le _)
  have h5 := block_str t u o.type e i ht hu hi hz hsize hby v n xs hown s h63 hbytes hr h4
  unfold Oper.wp execOp
  simp only [ho, resolve, invoke, builtin, Sem.run_bind, Sem.run_pure, Result.andThen_ok, List.map_toArray, List.map_cons, List.map_nil, hs, hx, hr]
  exact hK _ _ (h v' w' h2 h3 h5 fun e1 e2 => h4.2 ⟨e1, e2⟩)
theorem wp_one {ops : Array Oper} {rest : List Oper} {o : Oper} {a : Act} {Q : Exit → Act → World → Prop} (hgd : o.guard = none) (sl x : Operand) (t : TypeId)
    (ho : o.op = .call { callee := .builtin .append, args := #[sl, x], argTypes := #[t, t] }) (e : TypeId) (i : TypeInfo) (ht : P.underlying t = some (.slice e)) (hi : P.info? e = some i) (hz : i.zero = some (.int .u8 0)) (hsize : i.size = 1) (hby : i.bytes = 1)
    (v : Value) (n : Nat) (xs : List Value) (hs : a.eval sl = v) (hown : w.ownsRowF 0 e 1 v n xs) (ad : Addr) (c : Int) (hx : a.eval x = .slice (some ad) 1 1) (hc : w.cell? ad = some (.int .u8 c)) (h63 : n + 1 ≤ maxLen) (hbytes : n + 1 ≤ 140737488355328)
    (h : ∀ v' w', w'.ownsRowF 0 e 1 v' (n + 1) (xs ++ [.int .u8 c]) → w.grownBy w' v.ownBlock → (∀ k, v'.ownBlock = some k → k < w.heap.size → v.ownBlock = some k) → wpList P ops Q rest (a.put o.dst v') w') : wpList P ops Q (o :: rest) a w := by
  refine wpList_plain hgd fun K hK => ?_
  obtain ⟨v', w', hr, h2, h3, h4⟩ := run_append_ownF (P := P) w 0 t o.type e i (.int .u8 0) 1 1 ht hi hz hsize hby rfl (by decide) v n xs hown ad 1 1 [.int .u8 c] rfl (fun j u hj => by
    match j, hj with
    | 0, hj => simp at hj; subst hj; simpa [Addr.add] using hc) (by intro u hu; simp at hu; subst hu; rfl) h63 (by omega) (Nat.zero_le _)
  have h5 := block_one t o.type e i ht hi hz hsize hby v n xs hown ad c hc h63 hbytes hr
  unfold Oper.wp execOp
  simp only [ho, resolve, invoke, builtin, Sem.run_bind, Sem.run_pure, Result.andThen_ok, List.map_toArray, List.map_cons, List.map_nil, hs, hx, hr]
  exact hK _ _ (h v' w' h2 h3 h5)
end

/-- what copyCheck leaves -/
theorem copyCheck_bld (L : Lays.n240 P ρ) (X : Builder.X72 P ρ) (b : Nat) (p v : Value) (w : World) (hb : w.heap[b]? = some (.cells #[p, v] (ρ.t 72) (0, 0))) (hp : p = .pointer none ∨ p = .pointer (some ⟨b, 0, none⟩)) :
    Calls P (ρ.f 240) #[.pointer (some ⟨b, 0, none⟩)] w fun e w' => e = .returned (.tuple #[]) ∧ w'.heap[b]? = some (.cells #[.pointer (some ⟨b, 0, none⟩), v] (ρ.t 72) (0, 0)) ∧ w'.os = w.os ∧ w'.tape = w.tape ∧ w'.output = w.output ∧ w'.heap.size = w.heap.size ∧ ∀ k, k ≠ b → w'.heap[k]? = w.heap[k]? := by
  rcases hp with rfl | rfl
  · refine (Any.Builder_copyCheck_fresh L X b w (by rw [Lib.cell_of_heap hb]; rfl) (by simp [World.shape?, hb]) (by simp [World.frozen?, hb])).mono ?_
    rintro e w' ⟨rfl, rfl⟩
    refine ⟨rfl, ?_, rfl, rfl, rfl, by simp [World.setCell], fun k hk => Below.heap_setCell _ _ _ _ hk⟩
    simp [World.setCell, Array.getElem?_modify, hb]
  · refine (Any.Builder_copyCheck_used L X b w (by rw [Lib.cell_of_heap hb]; rfl)).mono ?_
    rintro e w' ⟨rfl, rfl⟩
    exact ⟨rfl, hb, rfl, rfl, rfl, rfl, fun _ _ => rfl⟩

set_option maxHeartbeats 2000000 in
set_option maxRecDepth 100000 in
theorem write_bld (L : Lays.n166 P ρ) (X : Builder.Extra P ρ) (w : World) (b : Nat) (p v : Value) (x : List Int) (s : ByteArray) (hb : w.heap[b]? = some (.cells #[p, v] (ρ.t 72) (0, 0))) (hp : p = .pointer none ∨ p = .pointer (some ⟨b, 0, none⟩)) (hbuf : BufR w (ρ.t 5) v x) (hne : v.ownBlock ≠ some b) (hlen : x.length + s.size < appLim) :
    Calls P (ρ.f 166) #[.pointer (some ⟨b, 0, none⟩), .string s] w fun e w' => e = .returned (.tuple #[.int .i64 s.size, .nilIface]) ∧ ∃ v', w'.heap[b]? = some (.cells #[.pointer (some ⟨b, 0, none⟩), v'] (ρ.t 72) (0, 0)) ∧ BufR w' (ρ.t 5) v' (x ++ bytesD s) ∧ v'.ownBlock ≠ some b ∧
      (∀ k, v'.ownBlock = some k → k < w.heap.size → v.ownBlock = some k) ∧ Others b v w w' := by
  obtain ⟨i0, hi, hz0, hz1, hz2⟩ := info_parts X.infoByte
  have mixed := L.mixed
  have t72 := L.t72; have a72 := L.a72; have z72 := L.z72; have v72 := L.v72; have u72 := run_underlying L.t72
  have t70 := L.t70; have a70 := L.a70; have z70 := L.z70; have v70 := L.v70; have u70 := run_underlying L.t70
  have t37 := L.t37; have a37 := L.a37; have z37 := L.z37; have v37 := L.v37; have u37 := run_underlying L.t37
  have t3 := L.t3; have a3 := L.a3; have z3 := L.z3; have v3 := L.v3; have u3 := run_underlying L.t3
  have t9 := L.t9; have a9 := L.a9; have z9 := L.z9; have v9 := L.v9; have u9 := run_underlying L.t9
  have t4 := L.t4; have a4 := L.a4; have z4 := L.z4; have v4 := L.v4; have u4 := run_underlying L.t4
  have t164 := L.t164; have a164 := L.a164; have z164 := L.z164; have v164 := L.v164; have u164 := run_underlying L.t164
  have t5 := X.t5; have a5 := X.a5; have z5 := X.z5; have v5 := X.v5; have u5 := run_underlying X.t5
  have e240 : ∀ args w, (callFunc (ρ.f 240) args).run P w = .ok (.enter (ρ.f 240) args) w := enters_of L.f240 (by kernel_rfl) rfl
  have lim : x.length + s.size ≤ 140737488355328 := by unfold appLim at hlen; omega
  have lim2 : x.length + s.size ≤ maxLen := by unfold maxLen; omega
  clear hlen
  go_enter L.f166, Body.n166_ntmps ρ
  go_wp2_with (go_at_fn (ρ.f 240); refine (copyCheck_bld { L with } X.toX72 b p v _ hb hp).mono ?_)
  rintro e w1 ⟨rfl, hb1, o1, o2, o3, o4, o5⟩
  have hblt := heap_lt hb
  have hbuf1 : BufR w1 (ρ.t 5) v x := by
    refine ⟨hbuf.1, hbuf.2.imp id ?_⟩
    rintro ⟨g, cap, cur, fz, h1, h2, h3⟩
    exact ⟨g, cap, cur, fz, h1, by rw [o5 g (by rintro rfl; rw [h1] at hne; simp [Value.ownBlock] at hne)]; exact h2, h3⟩
  have c0 : w1.cell? ⟨b, 0, none⟩ = some (.pointer (some ⟨b, 0, none⟩)) := by rw [Lib.cell_of_heap hb1]; rfl
  have c1 : w1.cell? ⟨b, 1, none⟩ = some v := by rw [Lib.cell_of_heap hb1]; rfl
  go_wp2_with (at_builtin; refine wp_str rfl _ _ (ρ.t 37) (ρ.t 9) rfl (ρ.t 5) i0 L.t37 L.t9 hi hz0 hz1 hz2 _ _ _ rfl (bufR_own hbuf1) s rfl ?c3 ?c4 ?_)
  case c3 => exact lim2
  case c4 => exact lim
  intro v' w2 hown' hgrow hblk hnil
  have hb2 : w2.heap[b]? = some (.cells #[.pointer (some ⟨b, 0, none⟩), v] (ρ.t 72) (0, 0)) := by
    rw [hgrow.block b (by omega) (fun e => hne e.symm)]
    exact hb1
  have d0 : w2.cell? ⟨b, 0, none⟩ = some (.pointer (some ⟨b, 0, none⟩)) := by rw [Lib.cell_of_heap hb2]; rfl
  have d1 : w2.cell? ⟨b, 1, none⟩ = some v := by rw [Lib.cell_of_heap hb2]; rfl
  have f1 : w2.frozen? ⟨b, 1, none⟩ = false := Lib.frozen_of_heap hb2 1
  obtain ⟨ao, n', cap, rfl⟩ : ∃ ao n' cap, v' = .slice ao n' cap := by
    rcases hown'.2 with ⟨hv, _⟩ | ⟨g, cap, cur, fz, hv, _⟩
    · exact ⟨_, _, _, hv⟩
    · exact ⟨_, _, _, hv⟩
  have hvb : (Value.slice ao n' cap).ownBlock ≠ some b := fun e => hne (hblk b e (by omega))
  go_wp2
  go_ret2
  refine ⟨rfl, .slice ao n' cap, ?_, ?_, hvb, fun k hk hlt => hblk k hk (by omega), ?_⟩
  · simp [World.setCell, Array.getElem?_modify, hb2]
  · have hown2 : (w2.setCell ⟨b, 1, none⟩ (.slice ao n' cap)).ownsRowF 0 (ρ.t 5) 1 (.slice ao n' cap) (x.length + s.size) (x.map (Value.int .u8) ++ Lib.strCells s) :=
      hown'.kept (row := some b) ⟨rfl, rfl, rfl, by simp [World.setCell], fun k _ hk => Below.heap_setCell _ _ _ _ (fun e => hk (by simp [e]))⟩ (Or.inr hvb)
    refine own_bufR (fun n hn => ?_) (fun hx0 => ?_) ?_
    · rcases List.mem_append.1 hn with h | h
      · exact hbuf.1 n h
      · exact bytesD_wrap s n h
    · have hx1 : x = [] := (List.append_eq_nil_iff.1 hx0).1
      have hs1 : bytesD s = [] := (List.append_eq_nil_iff.1 hx0).2
      refine hnil ?_ (by first | exact bldD_inj (by rw [hs1]; rfl) | (rw [← bytesD_len, hs1]; rfl))
      rcases hbuf.2 with ⟨h, _⟩ | ⟨_, _, _, _, _, _, _, _, _, _, _, h⟩
      · exact h
      · exact absurd hx1 h
    · rw [List.length_append, bytesD_len, List.map_append, ← strCells_bytes]; exact hown2
  · refine ⟨by simp [World.setCell, hgrow.os, o1], by simp [World.setCell, hgrow.tape, o2], by simp [World.setCell, hgrow.output, o3], by have := hgrow.size; simp [World.setCell]; omega, fun k hk hkb hkv => ?_⟩
    rw [Below.heap_setCell _ _ _ _ hkb, hgrow.block k (by omega) (fun e => hkv e.symm), o5 k hkb]

theorem BufR.keep {w w' : World} {u : Nat} {v : Value} {x : List Int} (h : BufR w u v x) (hw : ∀ k, v.ownBlock = some k → w'.heap[k]? = w.heap[k]?) : BufR w' u v x := by
  refine ⟨h.1, h.2.imp id ?_⟩
  rintro ⟨g, cap, cur, fz, h1, h2, h3⟩
  exact ⟨g, cap, cur, fz, h1, by rw [hw g (by rw [h1]; rfl)]; exact h2, h3⟩

set_option maxHeartbeats 2000000 in
set_option maxRecDepth 100000 in
theorem byte_bld (L : Lays.n167 P ρ) (X : Builder.Extra P ρ) (w : World) (b : Nat) (p v : Value) (x : List Int) (c : Int) (hc8 : IntKind.u8.wrap c = c) (hb : w.heap[b]? = some (.cells #[p, v] (ρ.t 72) (0, 0))) (hp : p = .pointer none ∨ p = .pointer (some ⟨b, 0, none⟩)) (hbuf : BufR w (ρ.t 5) v x) (hne : v.ownBlock ≠ some b) (hlen : x.length + 1 < appLim) :
    Calls P (ρ.f 167) #[.pointer (some ⟨b, 0, none⟩), .int .u8 c] w fun e w' => e = .returned .nilIface ∧ ∃ v', w'.heap[b]? = some (.cells #[.pointer (some ⟨b, 0, none⟩), v'] (ρ.t 72) (0, 0)) ∧ BufR w' (ρ.t 5) v' (x ++ [c]) ∧ v'.ownBlock ≠ some b ∧
      (∀ k, v'.ownBlock = some k → k < w.heap.size → v.ownBlock = some k) ∧ Others b v w w' := by
  obtain ⟨i0, hi, hz0, hz1, hz2⟩ := info_parts X.infoByte
  have mixed := L.mixed
  have t72 := L.t72; have a72 := L.a72; have z72 := L.z72; have v72 := L.v72; have u72 := run_underlying L.t72
  have t70 := L.t70; have a70 := L.a70; have z70 := L.z70; have v70 := L.v70; have u70 := run_underlying L.t70
  have t5 := L.t5; have a5 := L.a5; have z5 := L.z5; have v5 := L.v5; have u5 := run_underlying L.t5
  have t37 := L.t37; have a37 := L.a37; have z37 := L.z37; have v37 := L.v37; have u37 := run_underlying L.t37
  have t9 := L.t9; have a9 := L.a9; have z9 := L.z9; have v9 := L.v9; have u9 := run_underlying L.t9
  have t4 := L.t4; have a4 := L.a4; have z4 := L.z4; have v4 := L.v4; have u4 := run_underlying L.t4
  have t164 := L.t164; have a164 := L.a164; have z164 := L.z164; have v164 := L.v164; have u164 := run_underlying L.t164
  have e240 : ∀ args w, (callFunc (ρ.f 240) args).run P w = .ok (.enter (ρ.f 240) args) w := enters_of L.f240 (by kernel_rfl) rfl
  have lim : x.length + 1 ≤ 140737488355328 := by unfold appLim at hlen; omega
  have lim2 : x.length + 1 ≤ maxLen := by unfold maxLen; omega
  clear hlen
  go_enter L.f167, Body.n167_ntmps ρ
  go_wp2_with (go_at_fn (ρ.f 240); refine (copyCheck_bld { L with } X.toX72 b p v _ hb hp).mono ?_)
  rintro e w1 ⟨rfl, hb1, o1, o2, o3, o4, o5⟩
  have hblt := heap_lt hb
  have hbuf1 : BufR w1 (ρ.t 5) v x := hbuf.keep fun k hk => o5 k (by rintro rfl; exact hne hk)
  have c0 : w1.cell? ⟨b, 0, none⟩ = some (.pointer (some ⟨b, 0, none⟩)) := by rw [Lib.cell_of_heap hb1]; rfl
  have c1 : w1.cell? ⟨b, 1, none⟩ = some v := by rw [Lib.cell_of_heap hb1]; rfl
  go_wp2_with (at_builtin; refine wp_one rfl _ _ (ρ.t 37) rfl (ρ.t 5) i0 L.t37 hi hz0 hz1 hz2 _ _ _ rfl ((bufR_own hbuf1).alloc _) ⟨w.heap.size, 0, none⟩ c rfl ?c2 ?c3 ?c4 ?_)
  case c2 => rw [← o4]; simp
  case c3 => exact lim2
  case c4 => exact lim
  intro v' w2 hown' hgrow hblk
  have hsz : (w1.alloc (.cells #[.int .u8 c] (ρ.t 5))).heap.size = w1.heap.size + 1 := by simp
  have hblk' : ∀ k, v'.ownBlock = some k → k < w1.heap.size → v.ownBlock = some k := fun k hk hl => hblk k hk (by first | omega | (simp; omega) | (rw [hsz]; omega))
  have hb2 : w2.heap[b]? = some (.cells #[.pointer (some ⟨b, 0, none⟩), v] (ρ.t 72) (0, 0)) := by
    rw [hgrow.block b (by first | omega | (simp; omega) | (rw [hsz]; omega)) (fun e => hne e.symm), Lib.alloc_old w1 _ b (by omega)]
    exact hb1
  have d0 : w2.cell? ⟨b, 0, none⟩ = some (.pointer (some ⟨b, 0, none⟩)) := by rw [Lib.cell_of_heap hb2]; rfl
  have d1 : w2.cell? ⟨b, 1, none⟩ = some v := by rw [Lib.cell_of_heap hb2]; rfl
  have f1 : w2.frozen? ⟨b, 1, none⟩ = false := Lib.frozen_of_heap hb2 1
  obtain ⟨g, cap, rfl⟩ : ∃ g cap, v' = .slice (some ⟨g, 0, none⟩) (x.length + 1) cap := by
    rcases hown'.2 with ⟨_, h0⟩ | ⟨g, cap, cur, fz, hv, _⟩
    · omega
    · exact ⟨g, cap, hv⟩
  have hvb : (Value.slice (some ⟨g, 0, none⟩) (x.length + 1) cap).ownBlock ≠ some b := fun e => hne (hblk' b e (by omega))
  go_wp2
  go_ret
  refine ⟨rfl, .slice (some ⟨g, 0, none⟩) (x.length + 1) cap, ?_, ?_, hvb, fun k hk hlt => hblk' k hk (by omega), ?_⟩
  · simp [World.setCell, Array.getElem?_modify, hb2]
  · have hown2 : (w2.setCell ⟨b, 1, none⟩ (.slice (some ⟨g, 0, none⟩) (x.length + 1) cap)).ownsRowF 0 (ρ.t 5) 1 (.slice (some ⟨g, 0, none⟩) (x.length + 1) cap) (x.length + 1) (x.map (Value.int .u8) ++ [.int .u8 c]) :=
      hown'.kept (row := some b) ⟨rfl, rfl, rfl, by simp [World.setCell], fun k _ hk => Below.heap_setCell _ _ _ _ (fun e => hk (by simp [e]))⟩ (Or.inr hvb)
    refine own_bufR (fun n hn => ?_) (fun hx0 => by simp at hx0) ?_
    · rcases List.mem_append.1 hn with h | h
      · exact hbuf.1 n h
      · simp at h; rw [h]; exact hc8
    · rw [List.length_append, List.map_append]; exact hown2
  · refine ⟨Eq.trans (b := w2.os) rfl (hgrow.os.trans o1), Eq.trans (b := w2.tape) rfl (hgrow.tape.trans o2), Eq.trans (b := w2.output) rfl (hgrow.output.trans o3), by have h0 := hgrow.size; simp only [World.setCell, Array.size_modify]; first | omega | (simp at h0; omega), fun k hk hkb hkv => ?_⟩
    rw [Below.heap_setCell _ _ _ _ hkb, hgrow.block k (by first | omega | (simp; omega) | (rw [hsz]; omega)) (fun e => hkv e.symm), Lib.alloc_old w1 _ k (by omega), o5 k hkb]

/-- bytes as they are in a list -/
theorem toBytes {x : List Int} (h : ∀ n ∈ x, IntKind.u8.wrap n = n) : ∃ l : List UInt8, x = bytesD ⟨l.toArray⟩ ∧ x.map (Value.int .u8) = Lib.byteCells l := by
  induction x with
  | nil => exact ⟨[], rfl, rfl⟩
  | cons n x ih =>
    obtain ⟨l, h1, h2⟩ := ih fun m hm => h m (List.mem_cons_of_mem _ hm)
    have hn := h n List.mem_cons_self
    have hr : 0 ≤ n ∧ n < 256 := by
      simp [IntKind.wrap, IntKind.bits, IntKind.signed] at hn
      omega
    have e : ((UInt8.ofNat n.toNat).toNat : Int) = n := by
      rw [UInt8.toNat_ofNat']; omega
    refine ⟨UInt8.ofNat n.toNat :: l, ?_, ?_⟩
    · rw [h1]; simp only [bytesD, List.map_cons]; rw [e]
    · simp only [List.map_cons, Lib.byteCells] at h2 ⊢; rw [h2, e]

set_option maxHeartbeats 2000000 in
set_option maxRecDepth 100000 in
theorem string_bld1 (L : Lays.n169 P ρ) (X : Builder.Extra P ρ) (w : World) (b g cap : Nat) (cur : Array Value) (fz : Nat × Nat) (p : Value) (l : List UInt8) (h0 : l ≠ []) (hb : w.heap[b]? = some (.cells #[p, .slice (some ⟨g, 0, none⟩) l.length cap] (ρ.t 72) (0, 0)))
    (hg : w.heap[g]? = some (.cells cur (ρ.t 5) fz)) (hcap : l.length ≤ cap) (hcs : cur.size = cap) (hcm : cap ≤ maxLen) (htake : cur.toList.take l.length = Lib.byteCells l) :
    Calls P (ρ.f 169) #[.pointer (some ⟨b, 0, none⟩)] w fun e w' => e = .returned (.string ⟨l.toArray⟩) ∧ w' = w.drew.freeze ⟨g, 0, none⟩ l.length := by
  have hl0 : l.length ≠ 0 := by simpa using h0
  have c1 : w.drew.cell? ⟨b, 1, none⟩ = some (.slice (some ⟨g, 0, none⟩) l.length cap) := by
    have : w.drew.heap[b]? = some (.cells #[p, .slice (some ⟨g, 0, none⟩) l.length cap] (ρ.t 72) (0, 0)) := hb
    rw [Lib.cell_of_heap this]; rfl
  have hSD : (Builtin.unsafeSliceData_ #[(ρ.t 37)] (ρ.t 127) #[.slice (some ⟨g, 0, none⟩) l.length cap]).run P w.drew = .ok (.pointer (some ⟨g, 0, none⟩)) w.drew :=
    Lib.run_unsafeSliceData_row _ _ _ _ _ _ (by omega)
  have hUS : (Builtin.unsafeString_ #[(ρ.t 127), (ρ.t 3)] (ρ.t 9) #[.pointer (some ⟨g, 0, none⟩), .int .i64 l.length]).run P w.drew = .ok (.string ⟨l.toArray⟩) (w.drew.freeze ⟨g, 0, none⟩ l.length) := by
    refine Lib.run_unsafeString_row w.drew (ρ.t 127) (ρ.t 3) (ρ.t 9) (ρ.t 5) L.t127 X.cellsByte g cur.size (by have hg' : w.drew.heap[g]? = some (.cells cur (ρ.t 5) fz) := hg; simp [World.shape?, hg']) l h0 (by omega) (by unfold maxLen at hcm; omega) ?_
    intro j y hy
    have hgc : w.drew.cell? ⟨g, j, none⟩ = cur[j]? := by
      have hg' : w.drew.heap[g]? = some (.cells cur (ρ.t 5) fz) := hg
      simp [World.cell?, hg']
    have hjl : j < l.length := by
      rcases Nat.lt_or_ge j l.length with hl | hl
      · exact hl
      · rw [List.getElem?_eq_none hl] at hy; cases hy
    have hadd : (⟨g, 0, none⟩ : Addr).add j = ⟨g, j, none⟩ := by unfold Addr.add; split <;> simp_all
    rw [hadd, hgc]
    have : (cur.toList.take l.length)[j]? = (Lib.byteCells l)[j]? := by rw [htake]
    rw [List.getElem?_take, if_pos hjl, Array.getElem?_toList] at this
    rw [this]; simp [Lib.byteCells, hy]
  have mixed := L.mixed
  have t72 := L.t72; have a72 := L.a72; have z72 := L.z72; have v72 := L.v72; have u72 := run_underlying L.t72
  have t70 := L.t70; have a70 := L.a70; have z70 := L.z70; have v70 := L.v70; have u70 := run_underlying L.t70
  have t37 := L.t37; have a37 := L.a37; have z37 := L.z37; have v37 := L.v37; have u37 := run_underlying L.t37
  have t127 := L.t127; have a127 := L.a127; have z127 := L.z127; have v127 := L.v127; have u127 := run_underlying L.t127
  have t3 := L.t3; have a3 := L.a3; have z3 := L.z3; have v3 := L.v3; have u3 := run_underlying L.t3
  have t9 := L.t9; have a9 := L.a9; have z9 := L.z9; have v9 := L.v9; have u9 := run_underlying L.t9
  have t5 := X.t5; have a5 := X.a5; have z5 := X.z5; have v5 := X.v5; have u5 := run_underlying X.t5
  go_enter L.f169, Body.n169_ntmps ρ
  go_wp2
  go_region_o
  all_goals (go_wp2; go_ret; exact ⟨rfl, rfl⟩)

theorem string_bld (L : Lays.n169 P ρ) (X : Builder.Extra P ρ) (w : World) (b : Nat) (p v : Value) (x : List Int) (hb : w.heap[b]? = some (.cells #[p, v] (ρ.t 72) (0, 0))) (hp : p = .pointer none ∨ p = .pointer (some ⟨b, 0, none⟩)) (hbuf : BufR w (ρ.t 5) v x) (hne : v.ownBlock ≠ some b) :
    Calls P (ρ.f 169) #[.pointer (some ⟨b, 0, none⟩)] w fun e w' => ∃ bs, e = .returned (.string bs) ∧ bytesD bs = x ∧ bs.size ≤ maxLen ∧ w'.heap[b]? = some (.cells #[p, v] (ρ.t 72) (0, 0)) ∧ BufR w' (ρ.t 5) v x ∧ Others b v w w' := by
  rcases hbuf.2 with ⟨rfl, rfl⟩ | ⟨g, cap, cur, fz, rfl, h2, h3, h4, h5, h6, h7, h8⟩
  · refine (Any.Builder_String_nil L X w.heap.size b p w hb).mono ?_
    rintro e w' ⟨rfl, hB⟩
    exact ⟨_, rfl, rfl, by decide, by rw [hB.block b (heap_lt hb)]; exact hb, ⟨fun n hn => (by cases hn), .inl ⟨rfl, rfl⟩⟩, ⟨hB.os, hB.tape, hB.output, hB.size, fun k hk _ _ => hB.block k hk⟩⟩
  · obtain ⟨l, hl1, hl2⟩ := toBytes hbuf.1
    have hlen : x.length = l.length := by rw [hl1]; simp [bytesD]
    have hl0 : l ≠ [] := by rintro rfl; exact h8 (by rw [hl1]; rfl)
    rw [hlen] at hb h3 h4 h7
    rw [hl2] at h7
    have hgb : g ≠ b := fun e => hne (by simp [Value.ownBlock, e])
    refine (string_bld1 L X w b g cap cur fz p l hl0 hb h2 h4 h6 h5 h7).mono ?_
    rintro e w' ⟨rfl, rfl⟩
    have hA : Lib.BuilderAtF (ρ.t 72) (ρ.t 5) 0 b p (Lib.byteCells l) w.drew := ⟨Nat.zero_le _, _, hb, by
      rw [Lib.byteCells_length]
      exact ⟨by rw [Lib.byteCells_length]; simp, .inr ⟨g, cap, cur, fz, rfl, Nat.zero_le _, h2, by omega, h4, h5, by omega, by rw [Nat.mul_one]; exact h7⟩⟩, by simpa [Value.ownBlock] using hgb⟩
    have hF := hA.froze (g := g) (cap := cap) (by
      rw [Lib.byteCells_length]
      have : w.drew.heap[b]? = some (.cells #[p, .slice (some ⟨g, 0, none⟩) l.length cap] (ρ.t 72) (0, 0)) := hb
      rw [Lib.cell_of_heap this]; rfl)
    rw [Lib.byteCells_length] at hF
    have hoth : ∀ k, k ≠ g → (w.drew.freeze ⟨g, 0, none⟩ l.length).heap[k]? = w.heap[k]? := by
      intro k hk
      unfold World.freeze
      split
      · rfl
      · simp only [Array.getElem?_modify, if_neg (Ne.symm hk)]; rfl
    have hb' : (w.drew.freeze ⟨g, 0, none⟩ l.length).heap[b]? = some (.cells #[p, .slice (some ⟨g, 0, none⟩) x.length cap] (ρ.t 72) (0, 0)) := by
      rw [hoth b (Ne.symm hgb), hlen]; exact hb
    obtain ⟨_, v2, hb2, hown2, _⟩ := hF
    rw [hb'] at hb2
    have ev : v2 = .slice (some ⟨g, 0, none⟩) x.length cap := by
      simp at hb2; exact hb2.symm
    subst ev
    rw [Lib.byteCells_length, ← hl2, ← hlen] at hown2
    have hsz : (w.drew.freeze ⟨g, 0, none⟩ l.length).heap.size = w.heap.size := by
      unfold World.freeze
      split
      · rfl
      · simp
    refine ⟨_, rfl, hl1.symm, ?_, hb', own_bufR hbuf.1 (fun e => absurd e h8) (by rw [← hlen]; exact hown2), ?_⟩
    · have : (⟨l.toArray⟩ : ByteArray).size = l.length := by simp [ByteArray.size]
      omega
    · refine ⟨?_, ?_, ?_, by rw [hsz]; exact Nat.le_refl _, fun k hk _ hkv => hoth k fun e => hkv (by simp [Value.ownBlock, e])⟩
      all_goals (unfold World.freeze; split <;> rfl)

/-! ### the contracts -/
theorem ok_write (L : Lays.n166 P ρ) (X : Builder.Extra P ρ) : BldOk P (ρ.f 166) 1 (ρ.t 72) (ρ.t 5) := by
  intro w b p v x args x' hb hp hbuf hne hc
  rcases hc with ⟨_, s, rfl, rfl, hl⟩ | ⟨h, _⟩ | ⟨h, _⟩
  · refine .inl ⟨enters_of L.f166 (by kernel_rfl) rfl _ _, (write_bld L X w b p v x s hb hp hbuf hne hl).mono ?_⟩
    rintro e w' ⟨rfl, v', h1, h2, h3, h4, h5⟩
    exact ⟨_, _, v', rfl, fun h => (by cases h), h1, .inr rfl, h2, h3, h4, h5⟩
  · cases h
  · cases h
theorem ok_byte (L : Lays.n167 P ρ) (X : Builder.Extra P ρ) : BldOk P (ρ.f 167) 2 (ρ.t 72) (ρ.t 5) := by
  intro w b p v x args x' hb hp hbuf hne hc
  rcases hc with ⟨h, _⟩ | ⟨_, c, rfl, hc, rfl, hl⟩ | ⟨h, _⟩
  · cases h
  · refine .inl ⟨enters_of L.f167 (by kernel_rfl) rfl _ _, (byte_bld L X w b p v x c hc hb hp hbuf hne hl).mono ?_⟩
    rintro e w' ⟨rfl, v', h1, h2, h3, h4, h5⟩
    exact ⟨_, _, v', rfl, fun h => (by cases h), h1, .inr rfl, h2, h3, h4, h5⟩
  · cases h
theorem ok_string (L : Lays.n169 P ρ) (X : Builder.Extra P ρ) : BldOk P (ρ.f 169) 3 (ρ.t 72) (ρ.t 5) := by
  intro w b p v x args x' hb hp hbuf hne hc
  rcases hc with ⟨h, _⟩ | ⟨h, _⟩ | ⟨_, e1, e2⟩
  · cases h
  · cases h
  · subst e1 e2
    refine .inl ⟨enters_of L.f169 (by kernel_rfl) rfl _ _, (string_bld L X w b p v _ hb hp hbuf hne).mono ?_⟩
    rintro e w' ⟨bs, rfl, h0, h1, h2, h3, h4⟩
    exact ⟨_, p, v, rfl, fun _ => ⟨bs, rfl, h0, h1⟩, h2, hp, h3, hne, fun k hk _ => hk, h4⟩
end Go.SX

-- SX: Sim23
namespace Go.SX
open Go.RowKit
set_option linter.unusedVariables false
set_option linter.unusedSimpArgs false

theorem findCon_mem {f : Nat} : ∀ {cons : List Con} {c : Con}, findCon f cons = some c → c ∈ cons ∧ c.f = f
  | [], c, h => by cases h
  | c0 :: cons, c, h => by
    simp only [findCon] at h
    split at h
    · rename_i e
      cases h
      exact ⟨List.mem_cons_self, Nat.eq_of_beq_eq_true e⟩
    · obtain ⟨h1, h2⟩ := findCon_mem h
      exact ⟨List.mem_cons_of_mem _ h1, h2⟩

theorem arr_one {α : Type} {xs : Array α} {x : α} (h : xs.toList = [x]) : xs = #[x] := by
  apply Array.ext'; rw [h]
theorem arr_two {α : Type} {xs : Array α} {x y : α} (h : xs.toList = [x, y]) : xs = #[x, y] := by
  apply Array.ext'; rw [h]

section
variable {F : Frm} {G G' : Gh} {s s' s1 s2 : St} {a : Act} {w w' w1 : World} {T : Tab} {cons : List Con}

theorem cmd_good (hT : TabOk F.P T) (hC : ∀ c ∈ cons, ConOk F.P c) (h : Sim F G s a w) {o : Oper} {v : V} (hp : Path (cmdOf T cons o) s v s') : Good F o a w s' v := by
  cases ho : o.op with
  | move x => simp only [cmdOf, ho] at hp; exact move_good h ho hp
  | assign x => simp only [cmdOf, ho] at hp; exact assign_good h ho hp
  | pick c x y => simp only [cmdOf, ho] at hp; exact pick_good h ho hp
  | alloc t =>
    simp only [cmdOf, ho] at hp
    split at hp
    · rename_i d τ hd hτ
      exact alloc_good hT h ho hd hτ hp
    · exact hp.elim
  | box t x =>
    simp only [cmdOf, ho] at hp
    split at hp
    · rename_i d τ hd hτ
      exact box_good hT h ho hd hτ hp
    · exact hp.elim
  | build t ps => simp only [cmdOf, ho] at hp; exact build_good hT h ho hp
  | buildSlice t n ps => simp only [cmdOf, ho] at hp; exact buildSlice_good hT h ho hp
  | load t x => simp only [cmdOf, ho] at hp; exact load_good hT h ho hp
  | store t x y => simp only [cmdOf, ho] at hp; exact store_good hT h ho hp
  | nilCheck x => simp only [cmdOf, ho] at hp; exact nilCheck_good h ho hp
  | binOp op xt x y yt => simp only [cmdOf, ho] at hp; exact bin_good hT h ho hp
  | unOp op t x => simp only [cmdOf, ho] at hp; exact un_good h ho hp
  | convert src dst x =>
    simp only [cmdOf, ho] at hp
    by_cases hb : T.ty src = some .str ∧ T.ty dst = some (.slice (.int .u8))
    · exact strBytes_good hT h ho hb.1 hb.2 hp
    · exact convert_good hT h ho hb hp
  | makeSlice t l c => simp only [cmdOf, ho] at hp; exact makeSlice_good hT h ho hp
  | slice t x lo hi mx => simp only [cmdOf, ho] at hp; exact slice_good hT h ho hp
  | fieldAddr t x f => simp only [cmdOf, ho] at hp; exact fieldAddr_good hT h ho hp
  | field t x f => simp only [cmdOf, ho] at hp; exact field_good hT h ho hp
  | indexAddr t x i => simp only [cmdOf, ho] at hp; exact indexAddr_good hT h ho hp
  | index t x i => simp only [cmdOf, ho] at hp; exact index_good hT h ho hp
  | extract x i => simp only [cmdOf, ho] at hp; exact extract_good h ho hp
  | call c =>
    simp only [cmdOf, ho] at hp
    obtain ⟨callee, args, argTypes⟩ := c
    simp only at hp
    split at hp
    · split at hp
      · rename_i x t hx ht
        cases arr_one hx; cases arr_one ht
        exact len_good hT h ho hp
      · exact hp.elim
    · split at hp
      · rename_i x y t t' hx ht
        cases arr_two hx; cases arr_two ht
        exact append_good hT h ho hp
      · exact hp.elim
    · exact minmax_good (mx := false) h ho hp
    · exact minmax_good (mx := true) h ho hp
    · split at hp
      · split at hp
        · rename_i con hcon
          obtain ⟨h1, h2⟩ := findCon_mem hcon
          subst h2
          exact call_good h ho rfl (hC con h1) hp
        · exact hp.elim
      · exact hp.elim
    · exact hp.elim
  | _ => simp only [cmdOf, ho] at hp; exact hp.elim

end
end Go.SX

-- SX: Sim24
namespace Go.SX
open Go.RowKit
set_option linter.unusedVariables false
set_option linter.unusedSimpArgs false

/-- one operation, carried out or left out -/
def OStep (T : Tab) (cons : List Con) (ops : List Oper) (o : Oper) (s s' : St) : Prop :=
  (wantS ops o s = some true ∧ ∃ v s1, Path (cmdOf T cons o) s v s1 ∧ s' = putd s1 o.dst v) ∨ (wantS ops o s = some false ∧ s' = putd s o.dst skV)

def OSteps (T : Tab) (cons : List Con) (ops : List Oper) : List Oper → St → St → Prop
  | [], s, s' => s' = s
  | o :: l, s, s' => ∃ s1, OStep T cons ops o s s1 ∧ OSteps T cons ops l s1 s'

theorem splitV_some {R : Type} {g : Bool} {v : V} {K : V → Option R} {r : R} (h : splitV g v K = some r) : K v = some r := by
  unfold splitV at h
  split at h
  · rename_i b
    rcases br_some h with ⟨rfl, h⟩ | ⟨rfl, h⟩ <;> exact h
  · exact h

theorem evalOps_path {R : Type} (T : Tab) (cons : List Con) (ops : List Oper) : ∀ (l : List Oper) (i : Nat) (s : St) (K : St → Option R) (r : R), evalOps T cons ops i l s K = some r → ∃ s', OSteps T cons ops l s s' ∧ K s' = some r
  | [], i, s, K, r, h => ⟨s, rfl, h⟩
  | o :: l, i, s, K, r, h => by
    simp only [evalOps] at h
    split at h
    · rename_i hw
      obtain ⟨v, s1, hp, h1⟩ := Cmd.run_path _ _ _ _ h
      obtain ⟨s', h2, h3⟩ := evalOps_path T cons ops l _ _ _ _ (splitV_some h1)
      exact ⟨s', ⟨_, .inl ⟨hw, v, s1, hp, rfl⟩, h2⟩, h3⟩
    · rename_i hw
      obtain ⟨s', h2, h3⟩ := evalOps_path T cons ops l _ _ _ _ h
      exact ⟨s', ⟨_, .inr ⟨hw, rfl⟩, h2⟩, h3⟩
    · cases h

section
variable {F : Frm} {G G' : Gh} {s s' s1 s2 : St} {a : Act} {w w' w1 : World} {T : Tab} {cons : List Con}

theorem wanted_of (h : Sim F G s a w) {ops : Array Oper} {o : Oper} {b : Bool} (hw : wantS ops.toList o s = some b) : Region.wanted o (yielded ops a.tmps) = b := by
  unfold wantS at hw
  unfold Region.wanted
  split at hw
  · rename_i hg
    simp only [Option.some.injEq] at hw
    rw [hg, hw]
  · rename_i j want hg
    split at hw
    · rename_i t ht
      split at hw
      · rename_i b' hb
        simp only [Option.some.injEq] at hw
        have hv := h.vals t
        rw [hb] at hv
        have hbool : a.tmps.getD t undef = .bool b' := by
          obtain ⟨cs, hr, hv⟩ := hv
          rw [hv, show cs = _ from hr]; rfl
        have hy : yielded ops a.tmps j = some b' := by
          unfold yielded
          rw [Array.getElem?_toList] at ht
          rw [ht]
          simp only [Option.bind_some]
          have : a.tmps[t]? = some (.bool b') := by
            rw [Array.getD_eq_getD_getElem?] at hbool
            cases hc : a.tmps[t]? with
            | none => rw [hc] at hbool; cases hbool
            | some u => rw [hc] at hbool; exact congrArg some hbool
          rw [this]
        rw [hg]
        simp only [hy]
        rw [← hw]
        cases b' <;> cases want <;> rfl
      · rename_i vs hb
        simp only [Option.some.injEq] at hw
        have hv := h.vals t
        rw [hb] at hv
        have hv' : a.tmps.getD t undef = .tuple vs := hv
        have hy : yielded ops a.tmps j = none := by
          unfold yielded
          rw [Array.getElem?_toList] at ht
          rw [ht]
          simp only [Option.bind_some]
          rw [Array.getD_eq_getD_getElem?] at hv'
          cases hc : a.tmps[t]? with
          | none => rfl
          | some u => rw [hc] at hv'; cases (show u = _ from hv'); rfl
        rw [hg]
        simp only [hy]
        rw [← hw]
        cases want <;> rfl
      · cases hw
    · cases hw

/-- one operation, in the model -/
theorem op_good (hT : TabOk F.P T) (hC : ∀ c ∈ cons, ConOk F.P c) (h : Sim F G s a w) {ops : Array Oper} {o : Oper} (hs : OStep T cons ops.toList o s s1) {K : Act → World → Prop} {Q : Exit → Act → World → Prop}
    (hK : ∀ G' a' w', Sim F G' s1 a' w' → K a' w') : if Region.wanted o (yielded ops a.tmps) then o.wp F.P a w K Q ∨ (o.asks F.P a w ∧ LetsOut Q) else K (a.put o.dst undef) w := by
  rcases hs with ⟨hw, v, s2, hp, rfl⟩ | ⟨hw, rfl⟩
  · rw [wanted_of h hw, if_pos rfl]
    exact .inl (cmd_good hT hC h hp K Q fun u w' ⟨G', hS⟩ => hK G' _ _ hS)
  · rw [wanted_of h hw, if_neg (by decide)]
    exact hK G _ _ (h.putd o.dst skV _ (fun _ _ => rfl) fun n hn => hn.elim)

theorem ops_good (hT : TabOk F.P T) (hC : ∀ c ∈ cons, ConOk F.P c) {ops : Array Oper} {Q : Exit → Act → World → Prop} : ∀ (l : List Oper) (i : Nat) {G : Gh} {s : St} {a : Act} {w : World} (h : Sim F G s a w), (∀ j, l[j]? = ops[i + j]?) → OSteps T cons ops.toList l s s' →
    (∀ G' a' w', Sim F G' s' a' w' → Q .normal a' w') → wpOps F.P ops Q (List.range' i l.length) a w
  | [], i, G, s, a, w, h, hl, hs, hQ => by
    cases (show s' = s from hs)
    exact hQ G a w h
  | o :: l, i, G, s, a, w, h, hl, ⟨s1, h1, h2⟩, hQ => by
    have h0 : ops[i]? = some o := by simpa using (hl 0).symm
    simp only [List.length_cons, List.range'_succ, wpOps, h0]
    refine op_good hT hC h h1 fun G' a' w' hS => ?_
    exact ops_good hT hC l (i + 1) hS (fun j => by have := hl (j + 1); simpa [Nat.add_assoc, Nat.add_comm 1 j] using this) h2 hQ

theorem region_good (hT : TabOk F.P T) (hC : ∀ c ∈ cons, ConOk F.P c) {id : Nat} {ops : Array Oper} {Q : Exit → Act → World → Prop} (h : Sim F G s a w) (hs : OSteps T cons ops.toList ops.toList s s') (hQ : ∀ G' a' w', Sim F G' s' a' w' → Q .normal a' w') : (Code.region id ops false).wp F.P Q a w := by
  refine wp_region ?_
  have := ops_good hT hC ops.toList 0 h (fun j => by simp) hs hQ
  rw [List.range_eq_range']
  simpa using this

end
end Go.SX

-- SX: Sim25
namespace Go.SX
open Go.RowKit
set_option linter.unusedVariables false
set_option linter.unusedSimpArgs false

/-- a write -/
inductive Wr where
  | env (t : Nat) (v : V)
  | ob (o : Nat) (x : Ob)
  | use (n : Nat)
def Wr.loc : Wr → Nat
  | .env t _ => tl t
  | .ob o _ => ol o
  | .use n => ul n
def Wr.on : Wr → St → St
  | .env t v, s => s.put t v
  | .ob o x, s => s.setOb o x
  | .use n, s => s.use n
def onAll : List Wr → St → St
  | [], s => s
  | w :: ws, s => onAll ws (w.on s)

theorem onAll_append (ws vs : List Wr) (s : St) : onAll (ws ++ vs) s = onAll vs (onAll ws s) := by
  induction ws generalizing s with
  | nil => rfl
  | cons w ws ih => exact ih _

structure Shape (s t : St) : Prop where
  env : s.env.length = t.env.length
  objs : s.objs.length = t.objs.length
  used : s.used.length = t.used.length

theorem Shape.on {s t : St} (h : Shape s t) (w : Wr) : Shape (w.on s) (w.on t) := by
  cases w <;> exact ⟨by simp [Wr.on, St.put, St.setOb, St.use, h.env], by simp [Wr.on, St.put, St.setOb, St.use, h.objs], by simp [Wr.on, St.put, St.setOb, St.use, h.used]⟩
theorem Shape.left (w : Wr) (s : St) : Shape (w.on s) s := by
  cases w <;> exact ⟨by simp [Wr.on, St.put, St.setOb, St.use], by simp [Wr.on, St.put, St.setOb, St.use], by simp [Wr.on, St.put, St.setOb, St.use]⟩
theorem Shape.symm {s t : St} (h : Shape s t) : Shape t s := ⟨h.env.symm, h.objs.symm, h.used.symm⟩
theorem Shape.trans {s t u : St} (h : Shape s t) (k : Shape t u) : Shape s u := ⟨h.env.trans k.env, h.objs.trans k.objs, h.used.trans k.used⟩
theorem Shape.refl (s : St) : Shape s s := ⟨rfl, rfl, rfl⟩
theorem Shape.all (ws : List Wr) : ∀ (s : St), Shape (onAll ws s) s := by
  induction ws with
  | nil => exact Shape.refl
  | cons w ws ih => exact fun s => (ih _).trans (Shape.left w s)

/-- the same at a place -/
structure Agree (x : Nat) (s t : St) : Prop where
  env : ∀ k, x = tl k → s.get k = t.get k
  objs : ∀ k, x = ol k → s.ob k = t.ob k
  used : ∀ k, x = ul k → s.used.getD k true = t.used.getD k true

theorem Agree.refl (x : Nat) (s : St) : Agree x s s := ⟨fun _ _ => rfl, fun _ _ => rfl, fun _ _ => rfl⟩
theorem Agree.trans {x : Nat} {s t u : St} (h : Agree x s t) (k : Agree x t u) : Agree x s u := ⟨fun i e => (h.env i e).trans (k.env i e), fun i e => (h.objs i e).trans (k.objs i e), fun i e => (h.used i e).trans (k.used i e)⟩
theorem Agree.symm {x : Nat} {s t : St} (h : Agree x s t) : Agree x t s := ⟨fun i e => (h.env i e).symm, fun i e => (h.objs i e).symm, fun i e => (h.used i e).symm⟩

theorem getD_set_eq {α : Type} {l m : List α} (h : l.length = m.length) (i : Nat) (x : α) (k : Nat) (d : α) (hk : k ≠ i → l.getD k d = m.getD k d) : (l.set i x).getD k d = (m.set i x).getD k d := by
  by_cases e : i = k
  · subst e
    by_cases hl : i < l.length
    · have hm : i < m.length := by omega
      simp [List.getD_eq_getElem?_getD, hl, hm]
    · have hm : ¬ i < m.length := by omega
      rw [List.set_eq_of_length_le (by omega), List.set_eq_of_length_le (by omega)]
      simp [List.getD_eq_getElem?_getD, List.getElem?_eq_none (Nat.not_lt.1 hl), List.getElem?_eq_none (Nat.not_lt.1 hm)]
  · have := hk (Ne.symm e)
    simp only [List.getD_eq_getElem?_getD, List.getElem?_set_ne e] at this ⊢
    exact this

theorem getD_set_other {α : Type} (l : List α) (i : Nat) (x : α) (k : Nat) (d : α) (h : i ≠ k) : (l.set i x).getD k d = l.getD k d := by
  simp only [List.getD_eq_getElem?_getD, List.getElem?_set_ne h]

theorem Agree.on {x : Nat} {s t : St} (hs : Shape s t) (h : Agree x s t) (w : Wr) : Agree x (w.on s) (w.on t) := by
  cases w with
  | env i v =>
    refine ⟨fun k e => ?_, h.objs, h.used⟩
    exact getD_set_eq hs.env i v k .undef fun _ => h.env k e
  | ob i v =>
    refine ⟨h.env, fun k e => ?_, h.used⟩
    exact getD_set_eq hs.objs i v k .none fun _ => h.objs k e
  | use i =>
    refine ⟨h.env, h.objs, fun k e => ?_⟩
    exact getD_set_eq hs.used i true k true fun _ => h.used k e

theorem Agree.other {x : Nat} (w : Wr) (s : St) (h : w.loc ≠ x) : Agree x (w.on s) s := by
  cases w with
  | env i v =>
    refine ⟨fun k e => ?_, fun _ _ => rfl, fun _ _ => rfl⟩
    exact getD_set_other _ _ _ _ _ fun e' => h (by rw [e, ← e']; rfl)
  | ob i v =>
    refine ⟨fun _ _ => rfl, fun k e => ?_, fun _ _ => rfl⟩
    exact getD_set_other _ _ _ _ _ fun e' => h (by rw [e, ← e']; rfl)
  | use i =>
    refine ⟨fun _ _ => rfl, fun _ _ => rfl, fun k e => ?_⟩
    exact getD_set_other _ _ _ _ _ fun e' => h (by rw [e, ← e']; rfl)

theorem Agree.others {x : Nat} : ∀ (ws : List Wr) (s : St), (∀ w ∈ ws, w.loc ≠ x) → Agree x (onAll ws s) s
  | [], s, _ => .refl x s
  | w :: ws, s, h => (Agree.others ws _ fun v hv => h v (List.mem_cons_of_mem _ hv)).trans (Agree.other w s (h w List.mem_cons_self))

theorem set_swap {α : Type} (l : List α) {i j : Nat} (x y : α) (h : i ≠ j) : (l.set i x).set j y = (l.set j y).set i x := List.set_comm x y h

theorem on_swap (w v : Wr) (s : St) (h : w.loc ≠ v.loc) : v.on (w.on s) = w.on (v.on s) := by
  cases w <;> cases v <;> simp only [Wr.on, St.put, St.setOb, St.use, St.mk.injEq, true_and, and_true] <;> exact set_swap _ _ _ fun e => h (by simp [Wr.loc, e])

theorem onAll_swap1 (v : Wr) : ∀ (ws : List Wr) (s : St), (∀ w ∈ ws, w.loc ≠ v.loc) → v.on (onAll ws s) = onAll ws (v.on s)
  | [], s, _ => rfl
  | w :: ws, s, h => by
    simp only [onAll]
    rw [onAll_swap1 v ws _ fun x hx => h x (List.mem_cons_of_mem _ hx), on_swap w v s (h w List.mem_cons_self)]
theorem onAll_swap : ∀ (vs ws : List Wr) (s : St), (∀ w ∈ ws, ∀ v ∈ vs, w.loc ≠ v.loc) → onAll vs (onAll ws s) = onAll ws (onAll vs s)
  | [], ws, s, _ => rfl
  | v :: vs, ws, s, h => by
    simp only [onAll]
    rw [onAll_swap1 v ws s fun w hw => h w hw v List.mem_cons_self, onAll_swap vs ws _ fun w hw x hx => h w hw x (List.mem_cons_of_mem _ hx)]

/-- a way through, with what it reads and writes -/
def PathW : Cmd → St → V → List Wr → List Nat → Prop
  | .fail, _, _, _, _ => False
  | .ok v0, s, v, ws, rd => v = v0 ∧ ws = []
  | .get t k, s, v, ws, rd => tl t ∈ rd ∧ PathW (k (s.get t)) s v ws rd
  | .slot t x k, s, v, ws, rd => ∃ ws', ws = .env t x :: ws' ∧ PathW k (s.put t x) v ws' rd
  | .ob o k, s, v, ws, rd => ol o ∈ rd ∧ PathW (k (s.ob o)) s v ws rd
  | .setOb o x k, s, v, ws, rd => ∃ ws', ws = .ob o x :: ws' ∧ PathW k (s.setOb o x) v ws' rd
  | .fresh n k, s, v, ws, rd => ul n ∈ rd ∧ s.used.getD n true = false ∧ ∃ ws', ws = .use n :: ws' ∧ PathW k (s.use n) v ws' rd
  | .chk b k, s, v, ws, rd => b = true ∧ PathW k s v ws rd
  | .br b k1 k2, s, v, ws, rd => (b = true ∧ PathW k1 s v ws rd) ∨ (b = false ∧ PathW k2 s v ws rd)
  | .call _ x k, s, v, ws, rd => ∃ y, x = some y ∧ PathW (k y) s v ws rd

theorem PathW.path : ∀ {c : Cmd} {s : St} {v : V} {ws : List Wr} {rd : List Nat}, PathW c s v ws rd → Path c s v (onAll ws s)
  | .fail, s, v, ws, rd, h => h
  | .ok v0, s, v, ws, rd, h => by obtain ⟨rfl, rfl⟩ := h; exact ⟨rfl, rfl⟩
  | .get t k, s, v, ws, rd, h => h.2.path
  | .slot t x k, s, v, ws, rd, h => by obtain ⟨ws', rfl, h⟩ := h; exact h.path
  | .ob o k, s, v, ws, rd, h => h.2.path
  | .setOb o x k, s, v, ws, rd, h => by obtain ⟨ws', rfl, h⟩ := h; exact h.path
  | .fresh n k, s, v, ws, rd, h => by obtain ⟨_, h1, ws', rfl, h⟩ := h; exact ⟨h1, h.path⟩
  | .chk b k, s, v, ws, rd, h => ⟨h.1, h.2.path⟩
  | .br b k1 k2, s, v, ws, rd, h => h.imp (fun h => ⟨h.1, h.2.path⟩) (fun h => ⟨h.1, h.2.path⟩)
  | .call _ x k, s, v, ws, rd, h => by obtain ⟨y, h1, h⟩ := h; exact ⟨y, h1, h.path⟩

theorem PathW.mono : ∀ {c : Cmd} {s : St} {v : V} {ws : List Wr} {rd rd' : List Nat}, PathW c s v ws rd → (∀ x ∈ rd, x ∈ rd') → PathW c s v ws rd'
  | .fail, s, v, ws, rd, rd', h, hr => h
  | .ok v0, s, v, ws, rd, rd', h, hr => h
  | .get t k, s, v, ws, rd, rd', h, hr => ⟨hr _ h.1, h.2.mono hr⟩
  | .slot t x k, s, v, ws, rd, rd', h, hr => by obtain ⟨ws', e, h⟩ := h; exact ⟨ws', e, h.mono hr⟩
  | .ob o k, s, v, ws, rd, rd', h, hr => ⟨hr _ h.1, h.2.mono hr⟩
  | .setOb o x k, s, v, ws, rd, rd', h, hr => by obtain ⟨ws', e, h⟩ := h; exact ⟨ws', e, h.mono hr⟩
  | .fresh n k, s, v, ws, rd, rd', h, hr => by obtain ⟨h0, h1, ws', e, h⟩ := h; exact ⟨hr _ h0, h1, ws', e, h.mono hr⟩
  | .chk b k, s, v, ws, rd, rd', h, hr => ⟨h.1, h.2.mono hr⟩
  | .br b k1 k2, s, v, ws, rd, rd', h, hr => h.imp (fun h => ⟨h.1, h.2.mono hr⟩) (fun h => ⟨h.1, h.2.mono hr⟩)
  | .call _ x k, s, v, ws, rd, rd', h, hr => by obtain ⟨y, h1, h⟩ := h; exact ⟨y, h1, h.mono hr⟩

/-- where the reads agree, the way is the same -/
theorem PathW.agree : ∀ {c : Cmd} {s t : St} {v : V} {ws : List Wr} {rd : List Nat}, PathW c s v ws rd → Shape s t → (∀ x ∈ rd, Agree x s t) → PathW c t v ws rd
  | .fail, s, t, v, ws, rd, h, hs, ha => h
  | .ok v0, s, t, v, ws, rd, h, hs, ha => h
  | .get i k, s, t, v, ws, rd, h, hs, ha => by
    refine ⟨h.1, ?_⟩
    rw [← (ha _ h.1).env i rfl]; exact h.2.agree hs ha
  | .slot i x k, s, t, v, ws, rd, h, hs, ha => by
    obtain ⟨ws', e, h⟩ := h
    exact ⟨ws', e, h.agree (hs.on (.env i x)) fun y hy => (ha y hy).on hs (.env i x)⟩
  | .ob i k, s, t, v, ws, rd, h, hs, ha => by
    refine ⟨h.1, ?_⟩
    rw [← (ha _ h.1).objs i rfl]; exact h.2.agree hs ha
  | .setOb i x k, s, t, v, ws, rd, h, hs, ha => by
    obtain ⟨ws', e, h⟩ := h
    exact ⟨ws', e, h.agree (hs.on (.ob i x)) fun y hy => (ha y hy).on hs (.ob i x)⟩
  | .fresh n k, s, t, v, ws, rd, h, hs, ha => by
    obtain ⟨h0, h1, ws', e, h⟩ := h
    exact ⟨h0, by rw [← (ha _ h0).used n rfl]; exact h1, ws', e, h.agree (hs.on (.use n)) fun y hy => (ha y hy).on hs (.use n)⟩
  | .chk b k, s, t, v, ws, rd, h, hs, ha => ⟨h.1, h.2.agree hs ha⟩
  | .br b k1 k2, s, t, v, ws, rd, h, hs, ha => h.imp (fun h => ⟨h.1, h.2.agree hs ha⟩) (fun h => ⟨h.1, h.2.agree hs ha⟩)
  | .call _ x k, s, t, v, ws, rd, h, hs, ha => by obtain ⟨y, h1, h⟩ := h; exact ⟨y, h1, h.agree hs ha⟩

theorem Cmd.runF_path {R : Type} : ∀ (c : Cmd) (s : St) (rd wr : List Nat) (K : V → St → List Nat → List Nat → Option R) (r : R), c.runF s rd wr K = some r →
    ∃ v ws rd' wr', PathW c s v ws rd' ∧ (∀ x ∈ rd, x ∈ rd') ∧ (∀ x ∈ wr, x ∈ wr') ∧ (∀ w ∈ ws, w.loc ∈ wr') ∧ K v (onAll ws s) rd' wr' = some r
  | .fail, s, rd, wr, K, r, h => by simp [Cmd.runF] at h
  | .ok v, s, rd, wr, K, r, h => ⟨v, [], rd, wr, ⟨rfl, rfl⟩, fun _ h => h, fun _ h => h, fun _ h => by simp at h, h⟩
  | .get t k, s, rd, wr, K, r, h => by
    obtain ⟨v, ws, rd', wr', h1, h2, h3, h4, h5⟩ := runF_path (k (s.get t)) s _ _ K r h
    exact ⟨v, ws, rd', wr', ⟨h2 _ List.mem_cons_self, h1⟩, fun x hx => h2 x (List.mem_cons_of_mem _ hx), h3, h4, h5⟩
  | .slot t x k, s, rd, wr, K, r, h => by
    obtain ⟨v, ws, rd', wr', h1, h2, h3, h4, h5⟩ := runF_path k _ _ _ K r h
    refine ⟨v, .env t x :: ws, rd', wr', ⟨ws, rfl, h1⟩, h2, fun x hx => h3 x (List.mem_cons_of_mem _ hx), fun w hw => ?_, h5⟩
    rcases List.mem_cons.1 hw with rfl | hw
    · exact h3 _ List.mem_cons_self
    · exact h4 w hw
  | .ob o k, s, rd, wr, K, r, h => by
    obtain ⟨v, ws, rd', wr', h1, h2, h3, h4, h5⟩ := runF_path (k (s.ob o)) s _ _ K r h
    exact ⟨v, ws, rd', wr', ⟨h2 _ List.mem_cons_self, h1⟩, fun x hx => h2 x (List.mem_cons_of_mem _ hx), h3, h4, h5⟩
  | .setOb o x k, s, rd, wr, K, r, h => by
    obtain ⟨v, ws, rd', wr', h1, h2, h3, h4, h5⟩ := runF_path k _ _ _ K r h
    refine ⟨v, .ob o x :: ws, rd', wr', ⟨ws, rfl, h1⟩, h2, fun x hx => h3 x (List.mem_cons_of_mem _ hx), fun w hw => ?_, h5⟩
    rcases List.mem_cons.1 hw with rfl | hw
    · exact h3 _ List.mem_cons_self
    · exact h4 w hw
  | .fresh n k, s, rd, wr, K, r, h => by
    simp only [Cmd.runF] at h
    split at h
    · cases h
    · rename_i e
      obtain ⟨v, ws, rd', wr', h1, h2, h3, h4, h5⟩ := runF_path k _ _ _ K r h
      refine ⟨v, .use n :: ws, rd', wr', ⟨h2 _ List.mem_cons_self, e, ws, rfl, h1⟩, fun x hx => h2 x (List.mem_cons_of_mem _ hx), fun x hx => h3 x (List.mem_cons_of_mem _ hx), fun w hw => ?_, h5⟩
      rcases List.mem_cons.1 hw with rfl | hw
      · exact h3 _ List.mem_cons_self
      · exact h4 w hw
  | .chk b k, s, rd, wr, K, r, h => by
    obtain ⟨hb, h⟩ := chk_some h
    obtain ⟨v, ws, rd', wr', h1, h2⟩ := runF_path k s _ _ K r h
    exact ⟨v, ws, rd', wr', ⟨hb, h1⟩, h2⟩
  | .br b k1 k2, s, rd, wr, K, r, h => by
    rcases br_some h with ⟨hb, h⟩ | ⟨hb, h⟩
    · obtain ⟨v, ws, rd', wr', h1, h2⟩ := runF_path k1 s _ _ K r h
      exact ⟨v, ws, rd', wr', .inl ⟨hb, h1⟩, h2⟩
    · obtain ⟨v, ws, rd', wr', h1, h2⟩ := runF_path k2 s _ _ K r h
      exact ⟨v, ws, rd', wr', .inr ⟨hb, h1⟩, h2⟩
  | .call α x k, s, rd, wr, K, r, h => by
    obtain ⟨y, hy, h⟩ := obnd_some h
    obtain ⟨v, ws, rd', wr', h1, h2⟩ := runF_path (k y) s _ _ K r h
    exact ⟨v, ws, rd', wr', ⟨y, hy, h1⟩, h2⟩

end Go.SX

-- SX: Sim26
namespace Go.SX
open Go.RowKit
set_option linter.unusedVariables false
set_option linter.unusedSimpArgs false

def dstW (o : Oper) (v : V) : List Wr := match o.dst with | some t => [.env t v] | none => []
theorem putd_on (s : St) (o : Oper) (v : V) : putd s o.dst v = onAll (dstW o v) s := by
  unfold putd dstW
  cases o.dst <;> rfl
theorem dstW_loc {o : Oper} {v : V} {w : Wr} (h : w ∈ dstW o v) : w.loc ∈ dstWr o := by
  unfold dstW at h
  unfold dstWr
  cases hd : o.dst with
  | none => rw [hd] at h; simp at h
  | some t => rw [hd] at h; simp at h; subst h; simp [Wr.loc]

/-- an operation, with what it reads and writes -/
structure En where
  i : Nat
  o : Oper
  ws : List Wr
  rd : List Nat
  wr : List Nat

structure EnOk (T : Tab) (cons : List Con) (ops : List Oper) (e : En) (s : St) : Prop where
  step : (wantS ops e.o s = some true ∧ ∃ v ws0, PathW (cmdOf T cons e.o) s v ws0 e.rd ∧ e.ws = ws0 ++ dstW e.o v) ∨ (wantS ops e.o s = some false ∧ e.ws = dstW e.o skV)
  grd : ∀ x ∈ guardRd ops e.o, x ∈ e.rd
  loc : ∀ w ∈ e.ws, w.loc ∈ e.wr

theorem EnOk.ostep {T : Tab} {cons : List Con} {ops : List Oper} {e : En} {s : St} (h : EnOk T cons ops e s) : OStep T cons ops e.o s (onAll e.ws s) := by
  rcases h.step with ⟨h1, v, ws0, h2, h3⟩ | ⟨h1, h2⟩
  · exact .inl ⟨h1, v, _, h2.path, by rw [h3, onAll_append, putd_on]⟩
  · exact .inr ⟨h1, by rw [h2, putd_on]⟩

theorem wantS_agree {ops : List Oper} {o : Oper} {s t : St} (h : ∀ x ∈ guardRd ops o, Agree x s t) : wantS ops o s = wantS ops o t := by
  unfold wantS
  unfold guardRd at h
  cases hg : o.guard with
  | none => rfl
  | some jw =>
    obtain ⟨j, want⟩ := jw
    simp only [hg] at h
    cases hd : (ops[j]?).bind (·.dst) with
    | none => simp only [hd]
    | some t0 =>
      simp only [hd] at h
      have := (h (tl t0) (by simp)).env t0 rfl
      simp only [hd, this]

theorem EnOk.agree {T : Tab} {cons : List Con} {ops : List Oper} {e : En} {s t : St} (h : EnOk T cons ops e s) (hs : Shape s t) (ha : ∀ x ∈ e.rd, Agree x s t) : EnOk T cons ops e t := by
  have hw := wantS_agree (ops := ops) (o := e.o) fun x hx => ha x (h.grd x hx)
  refine ⟨?_, h.grd, h.loc⟩
  rw [← hw]
  rcases h.step with ⟨h1, v, ws0, h2, h3⟩ | h1
  · exact .inl ⟨h1, v, ws0, h2.agree hs ha, h3⟩
  · exact .inr h1

def Chain (T : Tab) (cons : List Con) (ops : List Oper) : St → List En → St → Prop
  | s, [], s' => s' = s
  | s, e :: L, s' => EnOk T cons ops e s ∧ Chain T cons ops (onAll e.ws s) L s'

/-- the two leave each other alone -/
structure Indep (x y : En) : Prop where
  wr : ∀ l ∈ x.wr, l ∉ y.rd
  ww : ∀ l ∈ x.wr, l ∉ y.wr
  rw : ∀ l ∈ x.rd, l ∉ y.wr

theorem Chain.bubble {T : Tab} {cons : List Con} {ops : List Oper} {s' : St} {y : En} {B : List En} : ∀ (A : List En) (s : St), Chain T cons ops s (A ++ y :: B) s' → (∀ x ∈ A, Indep x y) → Chain T cons ops s (y :: (A ++ B)) s'
  | [], s, h, _ => h
  | x :: A, s, ⟨hx, h⟩, hi => by
    obtain ⟨hy, h2⟩ := Chain.bubble A _ h fun z hz => hi z (List.mem_cons_of_mem _ hz)
    have hxy := hi x List.mem_cons_self
    have ag : ∀ l ∈ y.rd, Agree l (onAll x.ws s) s := fun l hl => Agree.others _ _ fun w hw e => hxy.wr _ (hx.loc w hw) (by rw [e]; exact hl)
    have hy0 := hy.agree (Shape.all x.ws s) ag
    have ag2 : ∀ l ∈ x.rd, Agree l s (onAll y.ws s) := fun l hl => (Agree.others _ _ fun w hw e => hxy.rw _ hl (by rw [← e]; exact hy0.loc w hw)).symm
    have hx1 := hx.agree (Shape.all y.ws s).symm ag2
    have hsw : onAll y.ws (onAll x.ws s) = onAll x.ws (onAll y.ws s) := onAll_swap _ _ _ fun w hw v hv e => hxy.ww _ (hx.loc w hw) (by rw [e]; exact hy0.loc v hv)
    rw [hsw] at h2
    exact ⟨hy0, hx1, h2⟩

/-! ### the edges -/
inductive Bef (ops : List Oper) : Nat → Nat → Prop where
  | one {i : Nat} {o : Oper} {e : Edge} : ops[i]? = some o → e ∈ o.after → Region.binds .any e = true → Bef ops e.on i
  | more {j i : Nat} {o : Oper} {e : Edge} : ops[i]? = some o → e ∈ o.after → Region.binds .any e = true → Bef ops j e.on → Bef ops j i

theorem edgeM_spec {i : Nat} {ms : List Nat} : ∀ (l : List Edge) (m : Nat), edgeM i ms l = some m → (∀ e ∈ l, Region.binds .any e = true → e.on < i) ∧ ∀ k, m.testBit k = true → ∃ e ∈ l, Region.binds .any e = true ∧ (e.on = k ∨ (ms.getD e.on 0).testBit k = true)
  | [], m, h => by
    simp only [edgeM, Option.some.injEq] at h; subst h
    exact ⟨fun e he => (by cases he), fun k hk => by simp at hk⟩
  | e :: l, m, h => by
    simp only [edgeM] at h
    split at h
    · rename_i hb
      split at h
      · rename_i m' hlt hm
        simp only [Option.some.injEq] at h; subst h
        obtain ⟨h1, h2⟩ := edgeM_spec l m' hm
        have hlt' : e.on < i := by simpa using hlt
        refine ⟨fun e' he' hb' => ?_, fun k hk => ?_⟩
        · rcases List.mem_cons.1 he' with rfl | he'
          · exact hlt'
          · exact h1 e' he' hb'
        · rw [Nat.testBit_or, Nat.testBit_or, Bool.or_eq_true, Bool.or_eq_true] at hk
          rcases hk with (hk | hk) | hk
          · obtain ⟨e', q1, q2⟩ := h2 k hk
            exact ⟨e', List.mem_cons_of_mem _ q1, q2⟩
          · rw [Nat.one_shiftLeft, Nat.testBit_two_pow] at hk
            exact ⟨e, List.mem_cons_self, hb, .inl (by simpa using hk)⟩
          · exact ⟨e, List.mem_cons_self, hb, .inr hk⟩
      · cases h
    · rename_i hb
      obtain ⟨h1, h2⟩ := edgeM_spec l m h
      refine ⟨fun e' he' hb' => ?_, fun k hk => ?_⟩
      · rcases List.mem_cons.1 he' with rfl | he'
        · rw [hb] at hb'; cases hb'
        · exact h1 e' he' hb'
      · obtain ⟨e', q1, q2⟩ := h2 k hk
        exact ⟨e', List.mem_cons_of_mem _ q1, q2⟩

theorem memN_spec {x : Nat} : ∀ {l : List Nat}, memN x l = false → x ∉ l
  | [], _ => by simp
  | y :: l, h => by
    simp only [memN] at h
    split at h
    · cases h
    · rename_i e
      have : x ≠ y := fun he => by rw [he] at e; simp at e
      simp [this, memN_spec h]
theorem disjN_spec : ∀ {l m : List Nat}, disjN l m = true → ∀ x ∈ l, x ∉ m
  | [], m, _, x, hx => by cases hx
  | y :: l, m, h, x, hx => by
    simp only [disjN] at h
    split at h
    · cases h
    · rename_i e
      rcases List.mem_cons.1 hx with rfl | hx
      · exact memN_spec e
      · exact disjN_spec h x hx

theorem freeOf_spec {m : Nat} {rd wr : List Nat} : ∀ {fs : List Ft}, freeOf m rd wr fs = true → ∀ f ∈ fs, m.testBit f.i = true ∨ ((∀ l ∈ f.wr, l ∉ rd) ∧ (∀ l ∈ f.wr, l ∉ wr) ∧ ∀ l ∈ f.rd, l ∉ wr)
  | [], _, f, hf => by cases hf
  | g :: fs, h, f, hf => by
    simp only [freeOf] at h
    split at h
    · rename_i e
      rcases List.mem_cons.1 hf with rfl | hf
      · simp only [Bool.or_eq_true, Bool.and_eq_true] at e
        exact e.imp id fun ⟨q1, q2, q3⟩ => ⟨disjN_spec q1, disjN_spec q2, disjN_spec q3⟩
      · exact freeOf_spec h f hf
    · cases h

def Ord (ops : List Oper) (x y : En) : Prop := Bef ops x.i y.i ∨ Indep x y

theorem evalOpsD_path {R : Type} (T : Tab) (cons : List Con) (ops : List Oper) : ∀ (l : List Oper) (i : Nat) (ms : List Nat) (fs : List Ft) (s : St) (K : St → Option R) (r : R), (∀ j, l[j]? = ops[i + j]?) → ms.length = i →
    (∀ j k, (ms.getD j 0).testBit k = true → Bef ops k j) → evalOpsD T cons ops i l ms fs s K = some r →
    ∃ L sN, Chain T cons ops s L sN ∧ K sN = some r ∧ L.length = l.length ∧ (∀ j e, L[j]? = some e → e.i = i + j ∧ l[j]? = some e.o) ∧
      (∀ e ∈ L, (∀ d ∈ e.o.after, Region.binds .any d = true → d.on < e.i) ∧ ∀ f ∈ fs, Bef ops f.i e.i ∨ ((∀ x ∈ f.wr, x ∉ e.rd) ∧ (∀ x ∈ f.wr, x ∉ e.wr) ∧ ∀ x ∈ f.rd, x ∉ e.wr)) ∧ L.Pairwise (Ord ops)
  | [], i, ms, fs, s, K, r, hl, hms, hb, h => ⟨[], s, rfl, h, rfl, fun j e he => (by simp at he), fun e he => (by cases he), List.Pairwise.nil⟩
  | o :: l, i, ms, fs, s, K, r, hl, hms, hb, h => by
    have h0 : ops[i]? = some o := by simpa using (hl 0).symm
    have hl' : ∀ j, l[j]? = ops[i + 1 + j]? := fun j => by have := hl (j + 1); simpa [Nat.add_assoc, Nat.add_comm 1 j] using this
    simp only [evalOpsD] at h
    split at h
    · cases h
    · rename_i m hm
      obtain ⟨k1, k2⟩ := edgeM_spec _ _ hm
      have hmb : ∀ k, m.testBit k = true → Bef ops k i := fun k hk => by
        obtain ⟨e, q1, q2, q3⟩ := k2 k hk
        have q1' : e ∈ o.after := by simpa using q1
        rcases q3 with rfl | q3
        · exact .one h0 q1' q2
        · exact .more h0 q1' q2 (hb _ _ q3)
      have hms' : (ms ++ [m]).length = i + 1 := by simp [hms]
      have hb' : ∀ j k, ((ms ++ [m]).getD j 0).testBit k = true → Bef ops k j := fun j k hk => by
        rcases Nat.lt_trichotomy j i with hj | hj | hj
        · refine hb j k ?_
          simp only [List.getD_eq_getElem?_getD] at hk ⊢
          rwa [List.getElem?_append_left (by omega)] at hk
        · subst hj
          simp only [List.getD_eq_getElem?_getD] at hk
          rw [List.getElem?_append_right (by omega), hms, Nat.sub_self] at hk
          exact hmb k hk
        · simp only [List.getD_eq_getElem?_getD] at hk
          rw [List.getElem?_eq_none (by omega)] at hk
          simp at hk
      -- what is alike in both ways
      have fin : ∀ (e : En) (hee : e.i = i ∧ e.o = o) (rdw : EnOk T cons ops e s) (hfree : freeOf m e.rd e.wr fs = true) (hrest : evalOpsD T cons ops (i + 1) l (ms ++ [m]) (⟨i, e.rd, e.wr⟩ :: fs) (onAll e.ws s) K = some r),
          ∃ L sN, Chain T cons ops s L sN ∧ K sN = some r ∧ L.length = (o :: l).length ∧ (∀ j e, L[j]? = some e → e.i = i + j ∧ (o :: l)[j]? = some e.o) ∧
            (∀ e ∈ L, (∀ d ∈ e.o.after, Region.binds .any d = true → d.on < e.i) ∧ ∀ f ∈ fs, Bef ops f.i e.i ∨ ((∀ x ∈ f.wr, x ∉ e.rd) ∧ (∀ x ∈ f.wr, x ∉ e.wr) ∧ ∀ x ∈ f.rd, x ∉ e.wr)) ∧ L.Pairwise (Ord ops) := by
        rintro e ⟨e1, e2⟩ hok hfree hrest
        obtain ⟨L, sN, q1, q2, q3, q4, q5, q6⟩ := evalOpsD_path T cons ops l (i + 1) _ _ _ K r hl' hms' hb' hrest
        refine ⟨e :: L, sN, ⟨hok, q1⟩, q2, by simp [q3], fun j x hx => ?_, fun x hx => ?_, List.pairwise_cons.2 ⟨fun x hx => ?_, q6⟩⟩
        · cases j with
          | zero => simp at hx; subst hx; exact ⟨by simp [e1], by simp [e2]⟩
          | succ j =>
            simp at hx
            obtain ⟨t1, t2⟩ := q4 j x hx
            exact ⟨by omega, by simpa using t2⟩
        · rcases List.mem_cons.1 hx with rfl | hx
          · refine ⟨fun d hd hbd => by rw [e1]; exact k1 d (by rw [e2] at hd; simpa using hd) hbd, fun f hf => ?_⟩
            rw [e1]
            exact (freeOf_spec hfree f hf).imp (hmb _) id
          · obtain ⟨t1, t2⟩ := q5 x hx
            exact ⟨t1, fun f hf => t2 f (List.mem_cons_of_mem _ hf)⟩
        · rcases (q5 x hx).2 ⟨i, e.rd, e.wr⟩ List.mem_cons_self with t | ⟨t1, t2, t3⟩
          · exact .inl (by rw [e1]; exact t)
          · exact .inr ⟨t1, t2, t3⟩
      split at h
      · rename_i hw
        obtain ⟨v, ws, rd', wr', p1, p2, p3, p4, p5⟩ := Cmd.runF_path _ _ _ _ _ _ h
        split at p5
        · rename_i hfree
          have hrest := splitV_some p5
          rw [putd_on, ← onAll_append] at hrest
          refine fin ⟨i, o, ws ++ dstW o v, rd', wr'⟩ ⟨rfl, rfl⟩ ⟨.inl ⟨hw, v, ws, p1, rfl⟩, p2, fun w hw => ?_⟩ hfree hrest
          rcases List.mem_append.1 hw with hw | hw
          · exact p4 w hw
          · exact p3 _ (dstW_loc hw)
        · cases p5
      · rename_i hw
        split at h
        · rename_i hfree
          rw [putd_on] at h
          exact fin ⟨i, o, dstW o skV, guardRd ops o, dstWr o⟩ ⟨rfl, rfl⟩ ⟨.inr ⟨hw, rfl⟩, fun x hx => hx, fun w hw => dstW_loc hw⟩ hfree h
        · cases h
      · cases h

end Go.SX

-- SX: Sim27
namespace Go.SX
open Go.RowKit
set_option linter.unusedVariables false
set_option linter.unusedSimpArgs false

section
variable {F : Frm} {G G' : Gh} {s s' s1 s2 : St} {a : Act} {w w' w1 : World} {T : Tab} {cons : List Con}

theorem bef_listed {ops : Array Oper} {listed : Array Bool} (hd : ∀ k, listed.getD k true = true → k < ops.size → ∀ o, ops[k]? = some o → ∀ e ∈ o.after, Region.binds .any e = true → listed.getD e.on true = true ∧ e.on < ops.size) {i : Nat}
    (hi : ∀ o, ops[i]? = some o → ∀ e ∈ o.after, Region.binds .any e = true → listed.getD e.on true = true ∧ e.on < ops.size) : ∀ {j k : Nat}, Bef ops.toList j k → k = i ∨ (listed.getD k true = true ∧ k < ops.size) → listed.getD j true = true := by
  intro j k hb
  induction hb with
  | one h0 h1 h2 =>
    intro hk
    have h0' := by rw [Array.getElem?_toList] at h0; exact h0
    rcases hk with rfl | ⟨hk, hlt⟩
    · exact (hi _ h0' _ h1 h2).1
    · exact (hd _ hk hlt _ h0' _ h1 h2).1
  | more h0 h1 h2 _ ih =>
    intro hk
    have h0' := by rw [Array.getElem?_toList] at h0; exact h0
    rcases hk with rfl | ⟨hk, hlt⟩
    · exact ih (.inr (hi _ h0' _ h1 h2))
    · exact ih (.inr (hd _ hk hlt _ h0' _ h1 h2))

theorem any_good (hT : TabOk F.P T) (hC : ∀ c ∈ cons, ConOk F.P c) {ops : Array Oper} {Q : Exit → Act → World → Prop} {sN : St} (hQ : ∀ G' a' w', Sim F G' sN a' w' → Q .normal a' w') :
    ∀ (n : Nat) (L : List En) (listed : Array Bool) (G : Gh) (s : St) (a : Act) (w : World), L.length = n → Sim F G s a w → Chain T cons ops.toList s L sN → L.Pairwise (fun x y => x.i < y.i) → L.Pairwise (Ord ops.toList) →
      (∀ e ∈ L, ops[e.i]? = some e.o) → (∀ e ∈ L, ∀ d ∈ e.o.after, Region.binds .any d = true → d.on < e.i) → listed.size = ops.size → (∀ j, listed.getD j true = false ↔ ∃ e ∈ L, e.i = j) →
      (∀ k, listed.getD k true = true → k < ops.size → ∀ o, ops[k]? = some o → ∀ e ∈ o.after, Region.binds .any e = true → listed.getD e.on true = true ∧ e.on < ops.size) →
      wpAny F.P .any ops Q n listed a w := by
  intro n
  induction n with
  | zero =>
    intro L listed G s a w hn h hc hs ho hops hed hsz hli hdn
    have : L = [] := List.eq_nil_of_length_eq_zero hn
    subst this
    cases (show sN = s from hc)
    refine ⟨?_, hQ _ _ _ h⟩
    rw [List.eq_nil_iff_forall_not_mem]
    intro j hj
    obtain ⟨e, he, _⟩ := (hli j).1 (mem_ready.1 hj).1
    cases he
  | succ n ih =>
    intro L listed G s a w hn h hc hs ho hops hed hsz hli hdn
    have hset : ∀ d, listed.getD d true = true → d < ops.size → listed.getD d false = true := fun d h1 h2 => by
      have hlt : d < listed.size := by omega
      simp only [Array.getD_eq_getD_getElem?, Array.getElem?_eq_getElem hlt, Option.getD_some] at h1 ⊢
      exact h1
    have hset' : ∀ d, listed.getD d false = true → listed.getD d true = true ∧ d < ops.size := fun d h1 => by
      rcases Nat.lt_or_ge d listed.size with hlt | hge
      · simp only [Array.getD_eq_getD_getElem?, Array.getElem?_eq_getElem hlt, Option.getD_some] at h1 ⊢
        exact ⟨h1, by omega⟩
      · simp [Array.getD_eq_getD_getElem?, Array.getElem?_eq_none hge] at h1
    have hread : Region.ready .any ops listed ≠ [] := by
      cases L with
      | nil => simp at hn
      | cons e0 L0 =>
        have hm : e0.i ∈ Region.ready .any ops listed := by
          refine mem_ready.2 ⟨(hli e0.i).2 ⟨e0, List.mem_cons_self, rfl⟩, e0.o, hops e0 List.mem_cons_self, fun d hd hb => ?_⟩
          have hlt := hed e0 List.mem_cons_self d hd hb
          have hsz0 : e0.i < ops.size := (Array.getElem?_eq_some_iff.1 (hops e0 List.mem_cons_self)).1
          refine hset _ ?_ (by omega)
          cases hc0 : listed.getD d.on true with
          | true => rfl
          | false =>
            obtain ⟨e', he', e2⟩ := (hli d.on).1 hc0
            rcases List.mem_cons.1 he' with rfl | he'
            · omega
            · have := (List.pairwise_cons.1 hs).1 e' he'; omega
        intro hnil; rw [hnil] at hm; cases hm
    refine ⟨fun hnil => absurd hnil hread, fun i hi => ?_⟩
    obtain ⟨hun, o, hoi, hall⟩ := mem_ready.1 hi
    obtain ⟨e, he, rfl⟩ := (hli i).1 hun
    have heo := hops e he
    rw [hoi] at heo; cases heo
    obtain ⟨A, B, rfl⟩ := List.append_of_mem he
    have hi' : ∀ o, ops[e.i]? = some o → ∀ d ∈ o.after, Region.binds .any d = true → listed.getD d.on true = true ∧ d.on < ops.size := fun o ho' d hd hb => by
      rw [hoi] at ho'; cases ho'
      exact hset' _ (hall d hd hb)
    have hind : ∀ x ∈ A, Indep x e := fun x hx => by
      have hxo := (List.pairwise_append.1 ho).2.2 x hx e List.mem_cons_self
      rcases hxo with hb | hxo
      · have := bef_listed hdn hi' hb (.inl rfl)
        have hfx := (hli x.i).2 ⟨x, List.mem_append_left _ hx, rfl⟩
        rw [this] at hfx; cases hfx
      · exact hxo
    obtain ⟨hok, hch⟩ := hc.bubble A s hind
    have hsub : (A ++ B).Sublist (A ++ e :: B) := List.Sublist.append_left (List.sublist_cons_self e B) A
    unfold wpOp
    simp only [hoi]
    refine op_good hT hC h hok.ostep fun G' a' w' hS => ?_
    have hne : ∀ x ∈ A ++ B, x.i ≠ e.i := fun x hx => by
      rcases List.mem_append.1 hx with hx | hx
      · have := (List.pairwise_append.1 hs).2.2 x hx e List.mem_cons_self; omega
      · have := (List.pairwise_cons.1 (List.pairwise_append.1 hs).2.1).1 x hx; omega
    have hlt : e.i < listed.size := by rw [hsz]; exact (Array.getElem?_eq_some_iff.1 hoi).1
    have hget : ∀ j, (listed.setIfInBounds e.i true).getD j true = if e.i = j then true else listed.getD j true := fun j => by
      by_cases hj : e.i = j
      · subst hj; simp [Array.getD_eq_getD_getElem?, hlt]
      · rw [if_neg hj]; simp [Array.getD_eq_getD_getElem?, Array.getElem?_setIfInBounds_ne hj]
    refine ih (A ++ B) _ G' _ a' w' (by simp at hn ⊢; omega) hS hch (hs.sublist hsub) (ho.sublist hsub) (fun x hx => hops x (hsub.subset hx)) (fun x hx => hed x (hsub.subset hx)) (by simpa using hsz) (fun j => ?_) (fun k hk hks o hok' d hd hb => ?_)
    · rw [hget]
      constructor
      · intro hj
        split at hj
        · cases hj
        · rename_i hne'
          obtain ⟨x, hx, rfl⟩ := (hli j).1 hj
          refine ⟨x, ?_, rfl⟩
          rcases List.mem_append.1 hx with hx | hx
          · exact List.mem_append_left _ hx
          · rcases List.mem_cons.1 hx with rfl | hx
            · exact absurd rfl hne'
            · exact List.mem_append_right _ hx
      · rintro ⟨x, hx, rfl⟩
        rw [if_neg (Ne.symm (hne x hx))]
        exact (hli x.i).2 ⟨x, hsub.subset hx, rfl⟩
    · rw [hget] at hk
      have base : listed.getD d.on true = true ∧ d.on < ops.size := by
        by_cases hke : e.i = k
        · subst hke; exact hi' o hok' d hd hb
        · rw [if_neg hke] at hk; exact hdn k hk hks o hok' d hd hb
      refine ⟨?_, base.2⟩
      rw [hget]
      split
      · rfl
      · exact base.1

theorem regionD_good (hT : TabOk F.P T) (hC : ∀ c ∈ cons, ConOk F.P c) (hm : F.P.follows .mixedOrders = true) {id : Nat} {ops : Array Oper} {Q : Exit → Act → World → Prop} {R : Type} {K : St → Option R} {r : R} (h : Sim F G s a w)
    (he : evalOpsD T cons ops.toList 0 ops.toList [] [] s K = some r) (hQ : ∀ sN, K sN = some r → ∀ G' a' w', Sim F G' sN a' w' → Q .normal a' w') : (Code.region id ops true).wp F.P Q a w := by
  obtain ⟨L, sN, h1, h2, h3, h4, h5, h6⟩ := evalOpsD_path T cons ops.toList ops.toList 0 [] [] s K r (fun j => by simp) rfl (fun j k hk => by simp at hk) he
  refine wp_region_any hm ?_
  have hd : Sim F G s a { w with drawn := w.drawn + 1 } := by
    obtain ⟨q1, q2, q3, q4, q5, q6, q7, q8, q9, q10, q11, q12, q13, q14, q15, q16, q17, q18⟩ := h
    have hk : Keep F.mu F.W0 { w with drawn := w.drawn + 1 } := ⟨q6.os, q6.tape, q6.output, q6.size, q6.block, q6.cells⟩
    have st : Stays (fun _ => False) G G w { w with drawn := w.drawn + 1 } := ⟨fun _ _ _ _ h => h, fun _ _ h => h, fun g L hL _ => ⟨hL, rfl, fun _ h => h⟩, fun _ _ h => h⟩
    have ob : ∀ b off τ x wr, ObR F G w b off τ x wr → ObR F G { w with drawn := w.drawn + 1 } b off τ x wr := by
      rintro b off τ x wr ⟨cs, c, e, fz, k1, k2, k3, k4⟩
      exact ⟨cs, c, e, fz, k1.mono st.cell st.im, k2, k3, k4⟩
    refine ⟨q1, q2, q3, q4, q5, hk, fun t => (q7 t).mono st (fun _ _ h => h) fun _ _ => rfl, fun o τ x hx => ?_, fun o τ x hx => ?_, fun o τ x k hx => ?_, q11, q12, q13, q14, q15, q16, q17, q18⟩
    · obtain ⟨b, off, k1, k2⟩ := q8 o τ x hx; exact ⟨b, off, k1, ob _ _ _ _ _ k2⟩
    · obtain ⟨b, off, k1, k2⟩ := q9 o τ x hx; exact ⟨b, off, k1, ob _ _ _ _ _ k2⟩
    · obtain ⟨b, off, k1, k2, k3⟩ := q10 o τ x k hx; exact ⟨b, off, k1, k2.mono0 st (fun _ h => h) rfl fun _ h => h, k3⟩
  have hidx : ∀ (j : Nat) (e : En), L[j]? = some e → e.i = j := fun j e he' => by have := (h4 j e he').1; omega
  have hsz : L.length = ops.size := by rw [h3]; simp
  refine any_good hT hC (hQ sN h2) ops.size L _ G s a _ hsz hd h1 ?_ h6 ?_ ?_ (by simp) ?_ ?_
  · rw [List.pairwise_iff_getElem]
    intro i j hi hj hij
    rw [hidx i _ (List.getElem?_eq_getElem hi), hidx j _ (List.getElem?_eq_getElem hj)]; exact hij
  · intro e he'
    obtain ⟨j, hj, rfl⟩ := List.getElem_of_mem he'
    have := (h4 j _ (List.getElem?_eq_getElem hj)).2
    rw [hidx j _ (List.getElem?_eq_getElem hj)]
    simpa using this
  · intro e he' d hd' hb
    exact (h5 e he').1 d hd' hb
  · intro j
    constructor
    · intro hj
      have hlt : j < ops.size := by
        rcases Nat.lt_or_ge j ops.size with hl | hl
        · exact hl
        · simp [Array.getD_eq_getD_getElem?, Array.getElem?_eq_none (xs := Array.replicate ops.size false) (by simpa using hl)] at hj
      have hlt' : j < L.length := by omega
      exact ⟨L[j], List.getElem_mem hlt', hidx j _ (List.getElem?_eq_getElem hlt')⟩
    · rintro ⟨e, he', rfl⟩
      obtain ⟨j, hj, rfl⟩ := List.getElem_of_mem he'
      rw [hidx j _ (List.getElem?_eq_getElem hj)]
      have : j < ops.size := by omega
      simp [Array.getD_eq_getD_getElem?, this]
  · intro k hk hks
    have : (Array.replicate ops.size false).getD k true = false := by simp [Array.getD_eq_getD_getElem?, hks]
    rw [this] at hk; cases hk

end
end Go.SX

-- SX: Sim28
namespace Go.SX
open Go.RowKit
set_option linter.unusedVariables false
set_option linter.unusedSimpArgs false

theorem objs0_len : ∀ (p n : Nat), (objs0 p n).length = n
  | _, 0 => by simp [objs0]
  | 0, n + 1 => by simp [objs0, objs0_len 0 n]
  | p + 1, n + 1 => by simp [objs0, objs0_len p n]
theorem objs0_off : ∀ (p n o : Nat), ((objs0 p n).getD o .none).off = true
  | _, 0, o => by simp [objs0, Ob.off]
  | 0, n + 1, 0 => by simp [objs0, Ob.off]
  | 0, n + 1, o + 1 => by simpa [objs0] using objs0_off 0 n o
  | p + 1, n + 1, 0 => by simp [objs0, Ob.off]
  | p + 1, n + 1, o + 1 => by simpa [objs0] using objs0_off p n o
theorem objs0_gone : ∀ (p n o : Nat), o < p → o < n → (objs0 p n).getD o .none = .gone
  | _, 0, o, h, h' => by omega
  | 0, n + 1, o, h, h' => by omega
  | p + 1, n + 1, 0, h, h' => by simp [objs0]
  | p + 1, n + 1, o + 1, h, h' => by simpa [objs0] using objs0_gone p n o (by omega) (by omega)

theorem unpack_shape (n np : Nat) : ∀ (l : List LK) (x : (liveT l).D), (unpack n np l x).env.length = n ∧ (unpack n np l x).objs.length = n ∧ (unpack n np l x).used.length = n
  | [], x => by simp [unpack, objs0_len]
  | .dat t τ :: r, x => by
    obtain ⟨h1, h2, h3⟩ := unpack_shape n np r x.2
    exact ⟨by simp [unpack, h1], by simp [unpack, h2], by simp [unpack, h3]⟩
  | .own t τ w ap :: r, x => by
    obtain ⟨h1, h2, h3⟩ := unpack_shape n np r x.2
    exact ⟨by simp [unpack, St.use, h1], by simp [unpack, St.use, h2], by simp [unpack, St.use, h3]⟩
  | .obj o τ :: r, x => by
    obtain ⟨h1, h2, h3⟩ := unpack_shape n np r x.2
    exact ⟨by simp [unpack, St.setOb, h1], by simp [unpack, St.setOb, h2], by simp [unpack, St.setOb, h3]⟩
  | .ptr t o τ :: r, x => by
    obtain ⟨h1, h2, h3⟩ := unpack_shape n np r x
    exact ⟨by simp [unpack, h1], by simp [unpack, h2], by simp [unpack, h3]⟩

theorem unpack_used (n np : Nat) : ∀ (l : List LK) (x : (liveT l).D) (m : Nat), m ∉ ownTs l → m < n → (unpack n np l x).used.getD m true = false
  | [], x, m, hm, hlt => by simp [unpack, List.getD_eq_getElem?_getD, List.getElem?_replicate, hlt]
  | .dat t τ :: r, x, m, hm, hlt => unpack_used n np r x.2 m hm hlt
  | .own t τ w ap :: r, x, m, hm, hlt => by
    simp only [ownTs, List.mem_cons, not_or] at hm
    have := unpack_used n np r x.2 m hm.2 hlt
    simp only [unpack, St.used_put, St.use, List.getD_eq_getElem?_getD, List.getElem?_set_ne (Ne.symm hm.1)] at this ⊢
    exact this
  | .obj o τ :: r, x, m, hm, hlt => unpack_used n np r x.2 m hm hlt
  | .ptr t o τ :: r, x, m, hm, hlt => unpack_used n np r x m hm hlt

theorem unpack_get (n np : Nat) : ∀ (l : List LK) (x : (liveT l).D) (m : Nat), m ∉ slotsL l → (unpack n np l x).get m = .undef
  | [], x, m, hm => by
    simp only [unpack, St.get, List.getD_eq_getElem?_getD, List.getElem?_replicate]
    split <;> rfl
  | .dat t τ :: r, x, m, hm => by
    simp only [slotsL, List.mem_cons, not_or] at hm
    simp only [unpack]
    rw [St.get_put_ne _ _ _ _ (Ne.symm hm.1)]; exact unpack_get n np r x.2 m hm.2
  | .own t τ w ap :: r, x, m, hm => by
    simp only [slotsL, List.mem_cons, not_or] at hm
    simp only [unpack]
    rw [St.get_put_ne _ _ _ _ (Ne.symm hm.1)]; exact unpack_get n np r x.2 m hm.2
  | .obj o τ :: r, x, m, hm => by
    simp only [slotsL, List.mem_cons, not_or] at hm
    simp only [unpack]
    rw [St.get_put_ne _ _ _ _ (Ne.symm hm.1)]; exact unpack_get n np r x.2 m hm.2
  | .ptr t o τ :: r, x, m, hm => by
    simp only [slotsL, List.mem_cons, not_or] at hm
    simp only [unpack]
    rw [St.get_put_ne _ _ _ _ (Ne.symm hm.1)]; exact unpack_get n np r x m hm.2

theorem unpack_ob (n np : Nat) : ∀ (l : List LK) (x : (liveT l).D) (m : Nat), m ∉ objsL l → ((unpack n np l x).ob m).off = true
  | [], x, m, hm => objs0_off np n m
  | .dat t τ :: r, x, m, hm => unpack_ob n np r x.2 m hm
  | .own t τ w ap :: r, x, m, hm => unpack_ob n np r x.2 m hm
  | .obj o τ :: r, x, m, hm => by
    simp only [objsL, List.mem_cons, not_or] at hm
    simp only [unpack, St.ob_put]
    rw [St.ob_setOb_ne _ _ _ _ (Ne.symm hm.1)]; exact unpack_ob n np r x.2 m hm.2
  | .ptr t o τ :: r, x, m, hm => unpack_ob n np r x m hm

theorem memN_true {x : Nat} : ∀ {l : List Nat}, memN x l = true → x ∈ l
  | [], h => by cases h
  | y :: l, h => by
    simp only [memN] at h
    split at h
    · rename_i e
      have := Nat.eq_of_beq_eq_true e
      simp [this]
    · exact List.mem_cons_of_mem _ (memN_true h)

theorem leb_le {a b : Bool} (h : leb a b = true) (ha : a = true) : b = true := by
  cases a <;> cases b <;> simp_all [leb]

section
variable {F : Frm} {G G' : Gh} {s s' s1 s2 : St} {a : Act} {w w' w1 : World} {T : Tab} {cons : List Con}

/-- less is known: weaker leave -/
theorem OwnR.weaken {base : Nat} {im : Nat → Nat → Prop} {ow : Nat → Option (Nat × Nat)} {L : Nat × Nat} {τ : Ty} {l : List τ.D} {wf ap wf' ap' : Bool} {v : Value} (h : OwnR w base im ow L τ l wf ap v) (h1 : wf' = true → wf = true) (h2 : ap' = true → ap = true) : OwnR w base im ow L τ l wf' ap' v := by
  rcases h with h | ⟨g, cap, cur, e, fz, css, r1, r2, r3, r4, r5, r6, r7, r8, r9, r10, r11, r12, r13⟩
  · exact .inl h
  · exact .inr ⟨g, cap, cur, e, fz, css, r1, r2, r3, r4, r5, r6, r7, r8, r9, r10, fun h => r11 (h2 h), r12, fun h => r13 (h1 h)⟩

/-- an object becomes live again -/
theorem Sim.liveAny (h : Sim F G s a w) {o b off : Nat} {τ : Ty} {ob : Ob} (hd : o < F.N) (hno : (s.ob o).off = true) (hoff : ob.off = false) (hpar : ∀ x, F.par o = some x → (b, off, τ) = x)
    (hvar : ∀ τ' y, ob = .var τ' y → τ' = τ ∧ ObR F G w b off τ' y true) (hro : ∀ τ' y, ob = .ro τ' y → τ' = τ ∧ ObR F G w b off τ' y false) (hvob : ∀ τ' y k, ob = .vob τ' y k → τ' = τ ∧ VobC w (Bw F) G.im G.ow o 0 b off τ' y true ∧ F.W0.heap.size ≤ b) (how : G.ow b = none)
    (hfar : ∀ o' b' off' τ', o' ≠ o → G.site o' = some (b', off', τ') → b ≠ b' ∨ off + τ.size ≤ off' ∨ off' + τ'.size ≤ off) :
    Sim F { G with site := fun o' => if o' = o then some (b, off, τ) else G.site o' } (s.setOb o ob) a w := by
  have hdl : o < s.objs.length := by rw [h.obl]; exact hd
  let G1 : Gh := { G with site := fun o' => if o' = o then some (b, off, τ) else G.site o' }
  have hsite : ∀ o' y, G.site o' = some y → G1.site o' = some y := fun o' y ho => by
    have : o' ≠ o := by rintro rfl; rw [h.dead.1 _ hno] at ho; cases ho
    simp only [G1, if_neg this]; exact ho
  have st : Stays (fun _ => False) G G1 w w := ⟨fun _ _ _ _ h => h, fun _ _ h => h, fun g L hL _ => ⟨hL, rfl, fun _ h => h⟩, hsite⟩
  refine ⟨h.defers, h.tmps, h.env, by simp [St.setOb, h.obl], h.usl, h.keep, fun t => (h.vals t).mono st (fun _ _ => id) fun _ _ => rfl, ?_, ?_, ?_, ?_, ?_, ?_, h.imlt, h.imb, h.im0, h.owlt, h.used⟩
  · intro o' τ' y' hy
    by_cases e1 : o' = o
    · subst e1
      rw [St.ob_setOb_same _ _ _ hdl] at hy
      obtain ⟨rfl, hr⟩ := hvar _ _ hy
      exact ⟨b, off, by simp, hr⟩
    · rw [St.ob_setOb_ne _ _ _ _ (Ne.symm e1)] at hy
      obtain ⟨b', off', h1, h2⟩ := h.vars o' τ' y' hy
      exact ⟨b', off', hsite o' _ h1, h2⟩
  · intro o' τ' y' hy
    by_cases e1 : o' = o
    · subst e1
      rw [St.ob_setOb_same _ _ _ hdl] at hy
      obtain ⟨rfl, hr⟩ := hro _ _ hy
      exact ⟨b, off, by simp, hr⟩
    · rw [St.ob_setOb_ne _ _ _ _ (Ne.symm e1)] at hy
      obtain ⟨b', off', h1, h2⟩ := h.ros o' τ' y' hy
      exact ⟨b', off', hsite o' _ h1, h2⟩
  · intro o' τ' y' k hy
    by_cases e1 : o' = o
    · subst e1
      rw [St.ob_setOb_same _ _ _ hdl] at hy
      obtain ⟨rfl, hr⟩ := hvob _ _ _ hy
      exact ⟨b, off, by simp, hr⟩
    · rw [St.ob_setOb_ne _ _ _ _ (Ne.symm e1)] at hy
      obtain ⟨b', off', h1, h2⟩ := h.vobs o' τ' y' k hy
      exact ⟨b', off', hsite o' _ h1, h2⟩
  · refine ⟨fun o' ho => ?_, fun o' x hx => ?_⟩
    · by_cases e1 : o' = o
      · subst e1
        rw [St.ob_setOb_same _ _ _ hdl, hoff] at ho; cases ho
      · rw [St.ob_setOb_ne _ _ _ _ (Ne.symm e1)] at ho
        simp only [if_neg e1]; exact h.dead.1 o' ho
    · obtain ⟨k1, k2, k3, k4⟩ := h.dead.2 o' x hx
      by_cases e1 : o' = o
      · subst e1
        refine ⟨k1, k2, by rw [St.ob_setOb_same _ _ _ hdl]; (rintro rfl; cases hoff), fun y hy => ?_⟩
        simp only [if_true, Option.some.injEq] at hy
        rw [← hy]; exact hpar x hx
      · exact ⟨k1, k2, by rw [St.ob_setOb_ne _ _ _ _ (Ne.symm e1)]; exact k3, fun y hy => k4 y (by simpa only [if_neg e1] using hy)⟩
  · intro o1 o2 b1 off1 τ1 b2 off2 τ2 hne h1 h2
    simp only at h1 h2
    by_cases e1 : o1 = o
    · subst e1
      rw [if_neg (Ne.symm hne)] at h2
      simp only [if_true] at h1; cases h1
      exact hfar o2 _ _ _ (Ne.symm hne) h2
    · rw [if_neg e1] at h1
      by_cases e2 : o2 = o
      · subst e2
        simp only [if_true] at h2; cases h2
        rcases hfar o1 _ _ _ hne h1 with q | q | q
        · exact .inl (Ne.symm q)
        · exact .inr (.inr q)
        · exact .inr (.inl q)
      · rw [if_neg e2] at h2
        exact h.apart o1 o2 _ _ _ _ _ _ hne h1 h2
  · intro o' b' off' τ1 h1
    simp only at h1
    by_cases e1 : o' = o
    · subst e1; simp only [if_true] at h1; cases h1; exact how
    · rw [if_neg e1] at h1; exact h.sow o' b' off' τ1 h1
theorem Sim.liveOb (h : Sim F G s a w) {o b off : Nat} {τ : Ty} {y : τ.D} (hd : o < F.N) (hno : (s.ob o).off = true) (hpar : ∀ x, F.par o = some x → (b, off, τ) = x) (hr : ObR F G w b off τ y true) (how : G.ow b = none)
    (hfar : ∀ o' b' off' τ', o' ≠ o → G.site o' = some (b', off', τ') → b ≠ b' ∨ off + τ.size ≤ off' ∨ off' + τ'.size ≤ off) :
    Sim F { G with site := fun o' => if o' = o then some (b, off, τ) else G.site o' } (s.setOb o (.var τ y)) a w :=
  h.liveAny hd hno rfl hpar (fun _ _ e => by cases e; exact ⟨rfl, hr⟩) (fun _ _ e => by cases e) (fun _ _ _ e => by cases e) how hfar

/-- a number is given to a value -/
theorem Sim.rehd (h : Sim F G s a w) {d : Nat} (hfr : s.used.getD d true = false) (v : Value) : Sim F { G with hd := fun n => if n = d then v else G.hd n } s a w :=
  h.grow ⟨rfl, rfl, rfl, Nat.le_refl _, fun _ _ => rfl, fun _ _ h => h, fun b i hi => ⟨.inl hi, h.imlt b i hi⟩, fun _ _ => rfl, fun b L hL => (h.owlt b L hL).2, rfl, fun n hn => if_neg (by rintro rfl; rw [hfr] at hn; cases hn)⟩ h.base

structure Packed (G G' : Gh) (s : St) (l : List LK) : Prop where
  im : ∀ b i, G.im b i → G'.im b i
  imn : ∀ b, G.ow b = none → G'.ow b = none ∧ ∀ i, G'.im b i → G.im b i
  ow : ∀ g L, G.ow g = some L → (∀ τ l wf ap ver, s.get L.1 ≠ .own τ l wf ap ver) → G'.ow g = some L ∧ ∀ i, G'.im g i → G.im g i
  site : ∀ o, o ∈ objsL l → G'.site o = G.site o
  nosite : ∀ o, o ∉ objsL l → G'.site o = none

/-- what keeping does to slots' blocks -/
theorem keepD_im (h : Sim F G s a w) {x : Operand} {v : V} {t : Nat} (o : Opd F G s a w x v t) {τ : Ty} {k : τ.D → Cmd} {r : V} (hp : Path (keepD τ v x k) s r s') :
    ∃ y G1 s1, Kept F G s a w G1 s1 ∧ RepV w G1.im τ y (a.eval x) ∧ Path (k y) s1 r s' ∧ (∀ g L, G.ow g = some L → (∀ τ l wf ap ver, s.get L.1 ≠ .own τ l wf ap ver) → ∀ i, G1.im g i → G.im g i) ∧
      ∀ t', (∀ τ l wf ap ver, s.get t' ≠ .own τ l wf ap ver) → s1.get t' = s.get t' := by
  have slot : ∀ (t0 : Nat) (τ' : Ty) (l : List τ'.D) (wf ap : Bool) (ver : Nat), s.get t0 = .own τ' l wf ap ver → ∃ G1, Kept F G s a w G1 (s.put t0 (.own τ' l false ap ver)) ∧ RepV w G1.im (.slice τ') l (a.tmps.getD t0 undef) ∧
      (∀ g L, G.ow g = some L → (∀ τ l wf ap ver, s.get L.1 ≠ .own τ l wf ap ver) → ∀ i, G1.im g i → G.im g i) ∧ ∀ t', (∀ τ l wf ap ver, s.get t' ≠ .own τ l wf ap ver) → (s.put t0 (.own τ' l false ap ver)).get t' = s.get t' := by
    intro t0 τ' l wf ap ver hs
    obtain ⟨G1, h1, st, e1, e2, e3, h2, h3⟩ := h.freeze hs
    refine ⟨G1, ⟨h1, st.im, e1, e2, e3, rfl, rfl, by simp, h3⟩, h2, fun g L hL hn i hi => (st.ow g L hL fun e => ?_).2.2 i hi, fun t' hn => St.get_put_ne _ _ _ _ ?_⟩
    · rw [e.1] at hn; exact hn _ _ _ _ _ hs
    · rintro rfl; exact hn _ _ _ _ _ hs
  have hrel := o.rel
  unfold keepD at hp
  split at hp
  · split at hp
    · rename_i z hz
      obtain ⟨rfl, rfl⟩ := cast_some hz
      exact ⟨_, G, s, .refl h, hrel, hp, fun _ _ _ _ _ h => h, fun _ _ => rfl⟩
    · exact hp.elim
  · rename_i c
    split at hp
    · rename_i y ha hy
      refine ⟨_, G, s, .refl h, ?_, hp, fun _ _ _ _ _ h => h, fun _ _ => rfl⟩
      rw [show a.eval x = c from hrel]
      exact constD_rep G.im ha hy
    · exact hp.elim
  · split at hp
    · refine ⟨_, G, s, .refl h, ?_, hp, fun _ _ _ _ _ h => h, fun _ _ => rfl⟩
      rw [show a.eval x = _ from hrel]
      exact ⟨[_], ⟨none, 0, rfl, Nat.le_refl _, Nat.zero_le _, .inl rfl⟩, rfl⟩
    · exact hp.elim
  · rename_i τ' l wf ap ver
    split at hp
    · rename_i t0
      obtain ⟨rfl, hs⟩ := o.tmp t0 rfl
      split at hp
      · split at hp
        · rename_i hz
          obtain ⟨rfl, rfl⟩ := castL_some hz
          obtain ⟨G1, k1, k2, k3, k4⟩ := slot _ _ _ _ _ _ hs.symm
          exact ⟨_, G1, _, k1, k2, hp, k3, k4⟩
        · exact hp.elim
      · exact hp.elim
    · exact hp.elim
  · rename_i t0 ver
    obtain ⟨τ', l, wf, ap, hs, hp⟩ := slotOf_path hp
    split at hp
    · split at hp
      · rename_i hz
        obtain ⟨rfl, rfl⟩ := castL_some hz
        obtain ⟨G1, k1, k2, k3, k4⟩ := slot _ _ _ _ _ _ hs
        rw [(al_content h hs).1] at k2
        refine ⟨_, G1, _, k1, ?_, hp, k3, k4⟩
        rw [show a.eval x = G.hd ver from hrel]
        exact k2
      · exact hp.elim
    · exact hp.elim
  · exact hp.elim

end
end Go.SX

-- SX: Sim29
namespace Go.SX
open Go.RowKit
set_option linter.unusedVariables false
set_option linter.unusedSimpArgs false

theorem memN_false {x : Nat} {l : List Nat} (h : memN x l = false) : x ∉ l := memN_spec h

theorem get_len {s : St} {t : Nat} {v : V} (h : s.get t = v) (hv : v ≠ .undef) : t < s.env.length := by
  rcases Nat.lt_or_ge t s.env.length with hl | hl
  · exact hl
  · simp only [St.get, List.getD_eq_getElem?_getD, List.getElem?_eq_none hl] at h; exact absurd h.symm hv

section
variable {F : Frm} {G G' : Gh} {s s' s1 s2 : St} {a : Act} {w w' w1 : World} {T : Tab} {cons : List Con}

theorem pack_nil (h : Sim F G s a w) : ∃ G', Sim F G' (unpack F.N F.np [] ()) a w ∧ Packed G G' s [] := by
  have hget : ∀ t, (unpack F.N F.np [] ()).get t = .undef := fun t => unpack_get F.N F.np [] () t (by simp [slotsL])
  have hob : ∀ o, ((unpack F.N F.np [] ()).ob o).off = true := fun o => unpack_ob F.N F.np [] () o (by simp [objsL])
  obtain ⟨l1, l2, l3⟩ := unpack_shape F.N F.np [] ()
  refine ⟨{ G with site := fun _ => none }, ⟨h.defers, h.tmps, l1, l2, l3, h.keep, fun t => by rw [hget]; trivial, fun o τ x hx => (by have := hob o; rw [hx] at this; cases this), fun o τ x hx => (by have := hob o; rw [hx] at this; cases this), fun o τ x k hx => (by have := hob o; rw [hx] at this; cases this), ⟨fun o _ => rfl, fun o x hx => ?_⟩, fun o o' b off τ b' off' τ' _ h1 => (by cases h1), fun o b off τ h1 => (by cases h1), h.imlt, h.imb, h.im0, h.owlt, fun n _ t hn => (by rw [hget] at hn; exact hn)⟩, ⟨fun _ _ h => h, fun b hb => ⟨hb, fun _ h => h⟩, fun g L hL _ => ⟨hL, fun _ h => h⟩, fun o ho => (by simp [objsL] at ho), fun o _ => rfl⟩⟩
  obtain ⟨k1, k2, _, _⟩ := h.dead.2 o x hx
  refine ⟨k1, k2, ?_, fun y hy => by cases hy⟩
  have := objs0_gone F.np F.N o k1 k2
  intro e
  rw [show (unpack F.N F.np [] ()).ob o = .gone from this] at e
  cases e

/-- an own slot, behind the rest -/
theorem own_live (h : Sim F G s a w) {t : Nat} (ht : t < F.N) (hu : s.used.getD t true = false) {τ : Ty} {l : List τ.D} {wf ap : Bool} (ho : OwnR w F.W0.heap.size G.im G.ow (t, 0) τ l wf ap (a.tmps.getD t undef)) :
    ∃ G', Sim F G' ((s.use t).put t (.own τ l wf ap t)) a w ∧ G'.im = G.im ∧ G'.ow = G.ow ∧ G'.site = G.site := by
  have h1 := (h.rehd hu (a.tmps.getD t undef)).use t
  exact ⟨_, h1.slot t _ ⟨by simp, ho⟩ fun n hn => by cases hn; exact used_same s _, rfl, rfl, rfl⟩

theorem pack_good {R : Type} : ∀ (l : List LK) {G : Gh} {s : St} (h : Sim F G s a w) (K : (liveT l).D → Option R) (r : R), pack l s K = some r → ∃ x G', K x = some r ∧ Sim F G' (unpack F.N F.np l x) a w ∧ Packed G G' s l
  | [], G, s, h, K, r, hp => by
    obtain ⟨G', h1, h2⟩ := pack_nil h
    exact ⟨(), G', hp, h1, h2⟩
  | .dat t τ :: l, G, s, h, K, r, hp => by
    simp only [pack] at hp
    obtain ⟨v, s', hpa, hp1⟩ := Cmd.run_path _ _ _ _ hp
    clear hp
    have hx : Opd F G s a w (.tmp t) (s.get t) t := ⟨h.vals t, fun t' e => by cases e; exact ⟨rfl, rfl⟩, fun hx => absurd rfl (hx t)⟩
    obtain ⟨y, G1, s1, hk, hy, hp2, k1, k2⟩ := keepD_im h hx hpa
    obtain ⟨rfl, rfl⟩ := hp2
    simp only at hp1
    split at hp1
    · rename_i y' hy'
      obtain ⟨e1, e2⟩ := cast_some hy'
      have e2 : y = y' := by simpa using e2
      subst e2
      obtain ⟨q, G', h1, h2, h3⟩ := pack_good l hk.sim _ r hp1
      refine ⟨(y, q), G', h1, h2.slot t (.dat τ y) (hy.mono (fun _ _ _ _ h => h) h3.im) fun n hn => hn.elim, ⟨fun b i hi => h3.im b i (hk.im b i hi), fun b hb => ?_, fun g L hL hn => ?_, fun o ho => ?_, h3.nosite⟩⟩
      · obtain ⟨q1, q2⟩ := h3.imn b (by rw [hk.ow]; exact hb)
        refine ⟨q1, fun i hi => ?_⟩
        rcases hk.im' b i (q2 i hi) with h | ⟨L, hL, _⟩
        · exact h
        · rw [hb] at hL; cases hL
      · obtain ⟨q1, q2⟩ := h3.ow g L (by rw [hk.ow]; exact hL) (by rw [k2 L.1 hn]; exact hn)
        exact ⟨q1, fun i hi => k1 g L hL hn i (q2 i hi)⟩
      · rw [h3.site o ho, hk.site]
    · cases hp1
  | .own t τ wf ap :: l, G, s, h, K, r, hp => by
    simp only [pack] at hp
    split at hp
    · cases hp
    · rename_i hnd
      have hnd := memN_false hnd
      have tl : s.get t ≠ .undef → t < F.N := fun hne => by rw [← h.env]; exact get_len rfl hne
      split at hp
      · rename_i τ' l' w' ap' ver hs
        have htN := tl (by rw [hs]; intro e; cases e)
        split at hp
        · rename_i l2 hl2 hle
          obtain ⟨e1, e2⟩ := castL_some hl2
          subst e1; simp only at e2; subst e2
          simp only [Bool.and_eq_true] at hle
          obtain ⟨c1, c2⟩ := al_content h hs
          have h0 := h.slot t .undef trivial fun n hn => hn.elim
          obtain ⟨q, G', h1, h2, h3⟩ := pack_good l h0 _ r hp
          have hge : (s.put t .undef).get t = .undef := St.get_put_same _ _ _ (by rw [h.env]; exact htN)
          have hown : OwnR w F.W0.heap.size G'.im G'.ow (t, 0) τ' l' w' ap' (a.tmps.getD t undef) := by
            rcases c2 with c2 | ⟨g, cap, cur, e, fz, css, r1, r2, r3, r4, r5, r6, r7, r8, r9, r10, r11, r12, r13⟩
            · exact .inl c2
            · obtain ⟨q1, q2⟩ := h3.ow g (t, 0) r3 (fun τ l wf ap ver he => by rw [hge] at he; cases he)
              exact .inr ⟨g, cap, cur, e, fz, css, r1, r2, q1, r4, r5, r6, r7, r8.mono fun _ _ hr => hr.mono (fun _ _ _ _ h => h) h3.im, r9, r10, r11, fun i hi hm => r12 i hi (q2 i hm), fun hw i hm => r13 hw i (q2 i hm)⟩
          obtain ⟨G2, h4, e1, e2, e3⟩ := own_live h2 htN (unpack_used F.N F.np l q t hnd htN) (hown.weaken (leb_le hle.1) (leb_le hle.2))
          refine ⟨(l', q), G2, h1, h4, ⟨by rw [e1]; exact h3.im, by rw [e1, e2]; exact h3.imn, fun g L hL hn => ?_, by rw [e3]; exact h3.site, by rw [e3]; exact h3.nosite⟩⟩
          rw [e1, e2]
          refine h3.ow g L hL ?_
          have hne : t ≠ L.1 := by rintro rfl; exact hn _ _ _ _ _ hs
          rw [St.get_put_ne _ _ _ _ hne]; exact hn
        · cases hp
      · rename_i hs
        have htN := tl (by rw [hs]; intro e; cases e)
        obtain ⟨q, G', h1, h2, h3⟩ := pack_good l h _ r hp
        have hv := h.vals t
        rw [hs] at hv
        obtain ⟨G2, h4, e1, e2, e3⟩ := own_live (τ := τ) (l := []) (wf := wf) (ap := ap) h2 htN (unpack_used F.N F.np l q t hnd htN) (.inl ⟨hv, rfl⟩)
        exact ⟨([], q), G2, h1, h4, ⟨by rw [e1]; exact h3.im, by rw [e1, e2]; exact h3.imn, by rw [e1, e2]; exact h3.ow, by rw [e3]; exact h3.site, by rw [e3]; exact h3.nosite⟩⟩
      · rename_i y ver hs
        have htN := tl (by rw [hs]; intro e; cases e)
        split at hp
        · rename_i τ' l' w' ap' ver' hy0 hsy
          have hy0 := memN_false hy0
          split at hp
          · rename_i l2 hl2 hle
            obtain ⟨e1, e2⟩ := castL_some hl2
            subst e1; simp only at e2; subst e2
            simp only [Bool.and_eq_true] at hle
            have hver := Nat.eq_of_beq_eq_true hle.2
            subst hver
            have hyN : y < F.N := by rw [← h.env]; exact get_len hsy (by intro e; cases e)
            obtain ⟨c1, c2⟩ := al_content h hsy
            have hv := h.vals t
            rw [hs] at hv
            have hev : a.tmps.getD y undef = a.tmps.getD t undef := c1.trans (show a.tmps.getD t undef = G.hd ver from hv).symm
            rw [hev] at c2
            have h0 := h.slot y .undef trivial fun n hn => hn.elim
            obtain ⟨q, G', h1, h2, h3⟩ := pack_good l h0 _ r hp
            have hge : (s.put y .undef).get y = .undef := St.get_put_same _ _ _ (by rw [h.env]; exact hyN)
            have hown : OwnR w F.W0.heap.size G'.im G'.ow (y, 0) τ' l' w' ap' (a.tmps.getD t undef) := by
              rcases c2 with c2 | ⟨g, cap, cur, e, fz, css, r1, r2, r3, r4, r5, r6, r7, r8, r9, r10, r11, r12, r13⟩
              · exact .inl c2
              · obtain ⟨q1, q2⟩ := h3.ow g (y, 0) r3 (fun τ l wf ap ver he => by rw [hge] at he; cases he)
                exact .inr ⟨g, cap, cur, e, fz, css, r1, r2, q1, r4, r5, r6, r7, r8.mono fun _ _ hr => hr.mono (fun _ _ _ _ h => h) h3.im, r9, r10, r11, fun i hi hm => r12 i hi (q2 i hm), fun hw i hm => r13 hw i (q2 i hm)⟩
            have h5 := h2.reloc y 0 (t, 0) .undef trivial fun n hn => hn.elim
            have e5 : (unpack F.N F.np l q).put y .undef = unpack F.N F.np l q := by
              have := unpack_get F.N F.np l q y hy0
              cases hu : unpack F.N F.np l q with
              | mk env objs used =>
                rw [hu] at this
                simp only [St.put, St.mk.injEq, and_true]
                simp only [St.get, List.getD_eq_getElem?_getD] at this
                apply List.ext_getElem?
                intro j
                by_cases hj : y = j
                · subst hj
                  by_cases hl : y < env.length
                  · rw [List.getElem?_set_self hl, List.getElem?_eq_getElem hl]
                    rw [List.getElem?_eq_getElem hl] at this
                    simp only [Option.getD_some] at this
                    rw [this]
                  · rw [List.set_eq_of_length_le (by omega)]
                · rw [List.getElem?_set_ne hj]
            rw [e5] at h5
            obtain ⟨G2, h4, e1, e2, e3⟩ := own_live h5 htN (unpack_used F.N F.np l q t hnd htN) ((hown.reloc (L' := (t, 0))).weaken (leb_le hle.1.1) (leb_le hle.1.2))
            refine ⟨(l', q), G2, h1, h4, ⟨by rw [e1]; exact h3.im, fun b hb => ?_, fun g L hL hn => ?_, by rw [e3]; exact h3.site, by rw [e3]; exact h3.nosite⟩⟩
            · rw [e1, e2]
              obtain ⟨q1, q2⟩ := h3.imn b hb
              exact ⟨by simp only [SX.reloc, q1]; simp, q2⟩
            · rw [e1, e2]
              have hne : y ≠ L.1 := by rintro rfl; exact hn _ _ _ _ _ hsy
              obtain ⟨q1, q2⟩ := h3.ow g L hL (by rw [St.get_put_ne _ _ _ _ hne]; exact hn)
              refine ⟨?_, q2⟩
              simp only [SX.reloc, q1]
              rw [if_neg]
              intro e; cases e; exact hne rfl
          · cases hp
        · cases hp
      · cases hp
  | .obj o τ :: l, G, s, h, K, r, hp => by
    simp only [pack] at hp
    split at hp
    · cases hp
    · rename_i hnd
      have hnd := memN_false hnd
      split at hp
      · rename_i o' τ1 hs
        -- what both ways have in common
        have key : ∀ (q : (liveT l).D) (y : τ.D) (G' : Gh), o' = o → τ1 = τ → (o < s.objs.length) → K (y, q) = some r → Sim F G' (unpack F.N F.np l q) a w → Packed G G' s l → (∀ b off, G.site o = some (b, off, τ) → G.ow b = none →
            (∀ τ' z, liveO τ y = .var τ' z → τ' = τ ∧ ObR F G' w b off τ' z true) ∧ (∀ τ' z k, liveO τ y = .vob τ' z k → τ' = τ ∧ VobC w (Bw F) G'.im G'.ow o 0 b off τ' z true ∧ F.W0.heap.size ≤ b)) →
            ∃ x G', K x = some r ∧ Sim F G' (unpack F.N F.np (.obj o τ :: l) x) a w ∧ Packed G G' s (.obj o τ :: l) := by
          rintro q y G' rfl rfl hoL h1 h2 h3 hobs
          have hv := h.vals o'
          rw [hs] at hv
          obtain ⟨b, off, hsite, _, hval⟩ := hv
          have hoN : o' < F.N := by rw [← h.obl]; exact hoL
          have how := h.sow o' b off _ hsite
          obtain ⟨n1, n2⟩ := h3.imn b how
          obtain ⟨hob1, hob2⟩ := hobs b off hsite how
          have hlO : (liveO τ1 y).off = false ∧ ∀ τ' z, liveO τ1 y ≠ .ro τ' z := by
            unfold liveO
            split
            · exact ⟨rfl, fun _ _ e => (by cases e)⟩
            · exact ⟨rfl, fun _ _ e => (by cases e)⟩
          have hlive := h2.liveAny (τ := τ1) (ob := liveO τ1 y) hoN (unpack_ob F.N F.np l q o' hnd) hlO.1 (fun x hx => (h.dead.2 o' x hx).2.2.2 _ hsite) hob1 (fun τ' z e => absurd e (hlO.2 _ _)) hob2 n1 fun o2 b2 off2 τ2 hne h2s => by
            by_cases hm : o2 ∈ objsL l
            · rw [h3.site o2 hm] at h2s
              exact h.apart o' o2 _ _ _ _ _ _ (Ne.symm hne) hsite h2s
            · rw [h3.nosite o2 hm] at h2s; cases h2s
          refine ⟨(y, q), _, h1, hlive.slot o' (.ptr o' τ1 []) ⟨b, off, by simp, trivial, hval⟩ fun n hn => hn.elim, ⟨h3.im, h3.imn, h3.ow, fun o2 ho2 => ?_, fun o2 ho2 => ?_⟩⟩
          · simp only [objsL, List.mem_cons] at ho2
            by_cases e : o2 = o'
            · subst e; simp [hsite]
            · simp only [if_neg e]; exact h3.site o2 (ho2.resolve_left e)
          · simp only [objsL, List.mem_cons, not_or] at ho2
            simp only [if_neg ho2.1]; exact h3.nosite o2 ho2.2
        split at hp
        · rename_i τ' y hb hob
          simp only [Bool.and_eq_true, decide_eq_true_eq] at hb
          have ho := Nat.eq_of_beq_eq_true hb.1
          split at hp
          · rename_i y' hy' hno
            obtain ⟨e1, e2⟩ := cast_some hy'
            subst e1; simp only at e2; subst e2
            obtain ⟨q, G', h1, h2, h3⟩ := pack_good l h _ r hp
            refine key q y G' ho hb.2 (ob_len hob) h1 h2 h3 fun b off hsite how => ?_
            have hlv : liveO τ' y = .var τ' y := by
              cases τ' <;> first | rfl | cases hno
            obtain ⟨b', off', hs', hobr⟩ := h.vars o _ _ hob
            rw [hsite] at hs'; cases hs'
            obtain ⟨n1, n2⟩ := h3.imn b how
            refine ⟨fun τ2 z e => ?_, fun τ2 z k e => by rw [hlv] at e; cases e⟩
            rw [hlv] at e; cases e
            obtain ⟨cs, c, e, fz, k1, k2, k3, k4⟩ := hobr
            obtain ⟨m1, m2, m3⟩ := k4 rfl
            exact ⟨rfl, cs, c, e, fz, k1.mono (fun _ _ _ _ h => h) h3.im, k2, k3, fun _ => ⟨m1, fun j hj hm => m2 j hj (n2 _ hm), m3⟩⟩
          · cases hp
        · rename_i τ' y kk hb hob
          simp only [Bool.and_eq_true, decide_eq_true_eq] at hb
          have ho := Nat.eq_of_beq_eq_true hb.1
          split at hp
          · rename_i y' hy' hbd
            obtain ⟨e1, e2⟩ := cast_some hy'
            subst e1; simp only at e2; subst e2
            obtain ⟨q, G', h1, h2, h3⟩ := pack_good l h _ r hp
            have hoL : o < s.objs.length := by
              rcases Nat.lt_or_ge o s.objs.length with hl | hl
              · exact hl
              · simp only [St.ob, List.getD_eq_getElem?_getD, List.getElem?_eq_none hl] at hob; cases hob
            refine key q y G' ho hb.2 hoL h1 h2 h3 fun b off hsite how => ?_
            obtain ⟨b', off', hs', hobr, hbase⟩ := h.vobs o _ _ _ hob
            rw [hsite] at hs'; cases hs'
            obtain ⟨n1, n2⟩ := h3.imn b how
            have hlv : ∃ k, liveO τ' y = .vob τ' y k := by
              cases τ' <;> first | exact ⟨_, rfl⟩ | cases hbd
            obtain ⟨k0, hlv⟩ := hlv
            refine ⟨fun τ2 z e => (by rw [hlv] at e; cases e), fun τ2 z k e => ?_⟩
            rw [hlv] at e; cases e
            refine ⟨rfl, ?_, hbase⟩
            have hso : ∀ τ l wf ap ver, s.get o ≠ .own τ l wf ap ver := fun τ l wf ap ver e => by rw [hs] at e; cases e
            have st : Stays (fun L => L.1 ≠ o) G { G' with site := G.site } w w := ⟨fun _ _ _ _ h => h, h3.im, fun g L hL hX => by
              have e1 : L.1 = o := Classical.not_not.1 hX
              obtain ⟨q1, q2⟩ := h3.ow g L hL (by rw [e1]; exact hso)
              exact ⟨q1, rfl, q2⟩, fun _ _ h => h⟩
            exact VobC.mono0 (X := fun L => L.1 ≠ o) (G' := { G' with site := G.site }) st (fun j (hj : (o, OBJ + j).1 ≠ o) => hj rfl) rfl (fun i hm => n2 i hm) hobr
          · cases hp
        · cases hp
      · cases hp
  | .ptr t o τ :: l, G, s, h, K, r, hp => by
    simp only [pack] at hp
    split at hp
    · rename_i o' τ' hm hs
      have hm := memN_true hm
      split at hp
      · rename_i hb
        simp only [Bool.and_eq_true, decide_eq_true_eq] at hb
        have ho := Nat.eq_of_beq_eq_true hb.1
        subst ho
        have ht := hb.2
        subst ht
        obtain ⟨q, G', h1, h2, h3⟩ := pack_good l h K r hp
        have hv := h.vals t
        rw [hs] at hv
        obtain ⟨b, off, hsite, k1, k2⟩ := hv
        exact ⟨q, G', h1, h2.slot t (.ptr o' τ' []) ⟨b, off, by rw [h3.site o' hm]; exact hsite, k1, k2⟩ fun n hn => hn.elim, ⟨h3.im, h3.imn, h3.ow, h3.site, h3.nosite⟩⟩
      · cases hp
    · cases hp

end
end Go.SX

-- SX: Sim30
namespace Go.SX
open Go.RowKit
set_option linter.unusedVariables false
set_option linter.unusedSimpArgs false

def exOf : Ex → Exit
  | .norm => .normal
  | .exit i => .exit i
  | .ret => .ret

section
variable {F : Frm} {T : Tab} {cons : List Con} {ρ : Type} (Fin : ρ → Act → World → Prop)

/-- what a loop comes to -/
def LPost (F : Frm) (Fin : ρ → Act → World → Prop) (Ls : LoopS ρ) (r : LR ρ (liveT Ls.out).D) : Exit → Act → World → Prop := fun e a w => match r with
  | .ret y => e = .ret ∧ Fin y a w
  | .out b => e = .normal ∧ ∃ G, Sim F G (unpack F.N F.np Ls.out b) a w

def LoopOk (F : Frm) (Fin : ρ → Act → World → Prop) (Ls : LoopS ρ) (c : Code) : Prop :=
  ∀ x r, Ls.run x = some r → ∀ G a w, Sim F G (unpack F.N F.np Ls.inn x) a w → c.wp F.P (LPost F Fin Ls r) a w

/-- every loop of the code does what its own function says -/
def LoopsOk (F : Frm) (Fin : ρ → Act → World → Prop) (ls : Nat → Option (LoopS ρ)) : Code → Prop
  | .seq a b => LoopsOk F Fin ls a ∧ LoopsOk F Fin ls b
  | .cond _ a b => LoopsOk F Fin ls a ∧ LoopsOk F Fin ls b
  | .block id (.loop body) => ∀ Ls, ls id = some Ls → LoopOk F Fin Ls (.block id (.loop body))
  | .block _ a => LoopsOk F Fin ls a
  | _ => True

theorem block_loops {F : Frm} {Fin : ρ → Act → World → Prop} {ls : Nat → Option (LoopS ρ)} {id : Nat} {c : Code} (hc : ∀ b, c ≠ .loop b) : LoopsOk F Fin ls (.block id c) = LoopsOk F Fin ls c := by
  cases c <;> first | rfl | exact absurd rfl (hc _)
theorem block_eval {R : Type} {T : Tab} {cons : List Con} {L : LoopF R} {id : Nat} {c : Code} (hc : ∀ b, c ≠ .loop b) (s : St) (K : Ex → St → Option R) :
    evalC T cons L (.block id c) s K = evalC T cons L c s fun e s => match e with
    | .exit i => match Nat.beq i id with
      | true => K .norm s
      | false => K (.exit i) s
    | .norm => K .norm s
    | .ret => K .ret s := by
  cases c <;> first | rfl | exact absurd rfl (hc _)

theorem evalC_good {R : Type} (hT : TabOk F.P T) (hC : ∀ c ∈ cons, ConOk F.P c) (hm : F.P.follows .mixedOrders = true) {ls : Nat → Option (LoopS ρ)} {ret : ρ → Option R} {r : R} :
    ∀ (c : Code) (hl : LoopsOk F Fin ls c) (s : St) (K : Ex → St → Option R) (Q : Exit → Act → World → Prop) (hret : ∀ y a w, ret y = some r → Fin y a w → Q .ret a w) {G : Gh} {a : Act} {w : World},
      evalC T cons (loopF F.N F.np ls ret) c s K = some r → Sim F G s a w → (∀ e s', K e s' = some r → ∀ G' a' w', Sim F G' s' a' w' → Q (exOf e) a' w') → c.wp F.P Q a w
  | .skip, hl, s, K, Q, hret, G, a, w, he, h, hQ => wp_skip (hQ .norm s he G a w h)
  | .region id ops draw, hl, s, K, Q, hret, G, a, w, he, h, hQ => by
    simp only [evalC] at he
    cases draw with
    | false =>
      simp only at he
      obtain ⟨s', h1, h2⟩ := evalOps_path T cons ops.toList _ _ _ _ _ he
      exact region_good hT hC h h1 fun G' a' w' hS => hQ .norm s' h2 G' a' w' hS
    | true =>
      simp only at he
      exact regionD_good hT hC hm h he fun sN hK G' a' w' hS => hQ .norm sN hK G' a' w' hS
  | .seq x y, hl, s, K, Q, hret, G, a, w, he, h, hQ => by
    simp only [evalC] at he
    refine wp_seq (evalC_good hT hC hm x hl.1 s _ (Exit.then (y.wp F.P Q) Q) (fun y a w h1 h2 => hret y a w h1 h2) he h fun e s' hK G' a' w' hS => ?_)
    cases e with
    | norm => exact evalC_good hT hC hm y hl.2 s' K Q hret hK hS hQ
    | exit i => exact hQ (.exit i) s' hK G' a' w' hS
    | ret => exact hQ .ret s' hK G' a' w' hS
  | .cond x p q, hl, s, K, Q, hret, G, a, w, he, h, hQ => by
    simp only [evalC] at he
    split at he
    · rename_i t
      split at he
      · rename_i c hc
        have hv := h.vals t
        rw [hc] at hv
        have hbool : a.eval (.tmp t) = .bool c := by
          obtain ⟨cs, hr, hv⟩ := hv
          show a.tmps.getD t undef = _
          rw [hv, show cs = _ from hr]; rfl
        rcases br_some he with ⟨rfl, he⟩ | ⟨rfl, he⟩
        · exact wp_cond_true hbool (evalC_good hT hC hm p hl.1 s K Q hret he h hQ)
        · exact wp_cond_false hbool (evalC_good hT hC hm q hl.2 s K Q hret he h hQ)
      · cases he
    · cases he
  | .block id c, hl, s, K, Q, hret, G, a, w, he, h, hQ => by
    by_cases hc : ∃ b, c = .loop b
    · obtain ⟨body, rfl⟩ := hc
      simp only [evalC, loopF] at he
      split at he
      · rename_i Ls hLs
        obtain ⟨x, G', h1, h2, _⟩ := pack_good Ls.inn h _ _ he
        obtain ⟨r0, h3, h4⟩ := obnd_some h1
        refine wp_mono (hl Ls hLs x r0 h3 G' a w h2) fun e a' w' hp => ?_
        cases r0 with
        | ret y =>
          obtain ⟨rfl, hf⟩ := hp
          exact hret y a' w' h4 hf
        | out b =>
          obtain ⟨rfl, G2, hS⟩ := hp
          exact hQ .norm _ h4 G2 a' w' hS
      · cases he
    · have hc' : ∀ b, c ≠ .loop b := fun b e => hc ⟨b, e⟩
      rw [block_eval hc'] at he
      rw [block_loops hc'] at hl
      refine wp_block (evalC_good hT hC hm c hl s _ (Exit.inBlock id Q) (fun y a w h1 h2 => hret y a w h1 h2) he h fun e s' hK G' a' w' hS => ?_)
      cases e with
      | norm => exact hQ .norm s' hK G' a' w' hS
      | exit i =>
        simp only at hK
        show Exit.inBlock id Q (.exit i) a' w'
        unfold Exit.inBlock
        split at hK
        · rename_i hb
          simp only [Nat.eq_of_beq_eq_true hb, if_true]
          exact hQ .norm s' hK G' a' w' hS
        · rename_i hb
          have hne : i ≠ id := fun e => by rw [e] at hb; simp at hb
          simp only [hne, if_false]
          exact hQ (.exit i) s' hK G' a' w' hS
      | ret => exact hQ .ret s' hK G' a' w' hS
  | .exit id, hl, s, K, Q, hret, G, a, w, he, h, hQ => wp_exit (hQ (.exit id) s he G a w h)
  | .ret, hl, s, K, Q, hret, G, a, w, he, h, hQ => wp_ret (hQ .ret s he G a w h)
  | .loop _, hl, s, K, Q, hret, G, a, w, he, h, hQ => by simp [evalC] at he
  | .label _, hl, s, K, Q, hret, G, a, w, he, h, hQ => by simp [evalC] at he
  | .goto _, hl, s, K, Q, hret, G, a, w, he, h, hQ => by simp [evalC] at he
  | .rangeFunc .., hl, s, K, Q, hret, G, a, w, he, h, hQ => by simp [evalC] at he
  | .scope _, hl, s, K, Q, hret, G, a, w, he, h, hQ => by simp [evalC] at he
  | .refuse _, hl, s, K, Q, hret, G, a, w, he, h, hQ => by simp [evalC] at he

end
end Go.SX

-- SX: Sim31
namespace Go.SX
open Go.RowKit
set_option linter.unusedVariables false
set_option linter.unusedSimpArgs false

/-- the results' values -/
def RunRes (P : Program) (tmps : Array Value) (w : World) : List ResultVar → List Value → Prop
  | [], vs => vs = []
  | .tmp t :: r, vs => ∃ vs', vs = tmps.getD t undef :: vs' ∧ RunRes P tmps w r vs'
  | .cell a t :: r, vs => ∃ v vs' b off, vs = v :: vs' ∧ tmps.getD a undef = .pointer (some ⟨b, off, none⟩) ∧ (loadVar t ⟨b, off, none⟩).run P w = .ok v w ∧ RunRes P tmps w r vs'

def resOf (tmps : Array Value) : ResultVar → Sem Value
  | .tmp t => pure (tmps.getD t undef)
  | .cell a t => do loadVar t (← asAddr (tmps.getD a undef))
theorem results_eq (fn : Func) (tmps : Array Value) : results fn tmps = (do let vs ← fn.results.mapM (resOf tmps); pure (if h : vs.size = 1 then vs[0] else .tuple vs)) := by
  unfold results
  congr 1

theorem run_resList {P : Program} {tmps : Array Value} {w : World} : ∀ (rvs : List ResultVar) (vs : List Value), RunRes P tmps w rvs vs → (rvs.mapM (m := Sem) (resOf tmps)).run P w = .ok vs w
  | [], vs, h => by rw [show vs = [] from h]; rfl
  | .tmp t :: r, vs, h => by
    obtain ⟨vs', rfl, h⟩ := h
    have h2 := run_resList r vs' h
    rw [List.mapM_cons]
    simp only [Sem.run_bind, resOf, Sem.run_pure, Result.andThen_ok, h2]
  | .cell a t :: r, vs, h => by
    obtain ⟨v, vs', b, off, rfl, h1, h0, h⟩ := h
    have h2 := run_resList r vs' h
    have h3 : (resOf tmps (.cell a t)).run P w = .ok v w := by
      simp only [resOf, Sem.run_bind, h1]
      exact h0
    rw [List.mapM_cons]
    simp only [Sem.run_bind, h3, Sem.run_pure, Result.andThen_ok, h2]

theorem run_results {P : Program} {w : World} {fn : Func} {tmps : Array Value} {vs : List Value} (h : RunRes P tmps w fn.results.toList vs) : (results fn tmps).run P w = .ok (retV vs) w := by
  have h1 := run_resList _ _ h
  rw [results_eq, Array.mapM_eq_mapM_toList]
  simp only [map_eq_pure_bind, Sem.run_bind, h1, Result.andThen_ok, Sem.run_pure]
  match vs with
  | [] => rfl
  | [v] => rfl
  | v :: v2 :: vs => simp [retV]
end Go.SX

-- SX: Sim32
namespace Go.SX
open Go.RowKit
set_option linter.unusedVariables false
set_option linter.unusedSimpArgs false

/-- the pointers among the parameters lead to the parameters' objects -/
def ParsAt (par : Nat → Option (Nat × Nat × Ty)) : List PK → Nat → List Value → Prop
  | [], _, us => us = []
  | .val _ :: ps, i, us => ∃ u us', us = u :: us' ∧ ParsAt par ps (i + 1) us'
  | .ro _ :: ps, i, us => ∃ u us', us = u :: us' ∧ ParsAt par ps (i + 1) us'
  | .ref τ :: ps, i, us => ∃ b off us', us = .pointer (some ⟨b, off, none⟩) :: us' ∧ par i = some (b, off, τ) ∧ ParsAt par ps (i + 1) us'

section
variable {F : Frm} {T : Tab} {cons : List Con} {a : Act} {w : World}

theorem endRefs_good {R : Type} {G : Gh} {s : St} (h : Sim F G s a w) : ∀ (ps : List PK) (i : Nat) (us : List Value) (K : (refT ps).D → Option R) (r : R), endRefs ps i s K = some r → ParsAt F.par ps i us → ∃ z, K z = some r ∧ RefsR w G.im ps us z
  | [], i, us, K, r, he, hp => ⟨(), he, trivial⟩
  | .val _ :: ps, i, us, K, r, he, hp => by
    obtain ⟨u, us', rfl, hp⟩ := hp
    exact endRefs_good h ps (i + 1) us' K r he hp
  | .ro _ :: ps, i, us, K, r, he, hp => by
    obtain ⟨u, us', rfl, hp⟩ := hp
    exact endRefs_good h ps (i + 1) us' K r he hp
  | .ref τ :: ps, i, us, K, r, he, hp => by
    obtain ⟨b, off, us', rfl, hpar, hp⟩ := hp
    simp only [endRefs] at he
    split at he
    · rename_i τ' y hob
      split at he
      · rename_i y' hy
        obtain ⟨e1, e2⟩ := cast_some hy
        subst e1; simp only at e2; subst e2
        obtain ⟨z, h1, h2⟩ := endRefs_good h ps (i + 1) us' _ r he hp
        obtain ⟨b', off', k1, k2⟩ := h.vars i _ _ hob
        have := (h.dead.2 i _ hpar).2.2.2 _ k1
        cases this
        obtain ⟨cs, m1, m2⟩ := k2.range
        exact ⟨(y, z), h1, ⟨cs, m1, m2⟩, h2⟩
      · cases he
    · cases he

theorem OwnR.fresh {base : Nat} {G G' : Gh} {L : Nat × Nat} {τ : Ty} {l : List τ.D} {wf wf' : Bool} {v : Value} (h : OwnR w base G.im G.ow L τ l wf true v) (hw : wf' = true → wf = true) (him : ∀ b i, G.im b i → G'.im b i) (hg : ∀ g, G.ow g = some L → ∀ i, G'.im g i → G.im g i) : OwnN w base G'.im τ l wf' v := by
  rcases h with h | ⟨g, cap, cur, e, fz, css, r1, r2, r3, r4, r5, r6, r7, r8, r9, r10, r11, r12, r13⟩
  · exact .inl h
  · have := r11 rfl
    subst this
    exact .inr ⟨g, cap, cur, e, css, r1, r2, r4, r5, r6, r7, r8.mono fun _ _ hr => hr.mono (fun _ _ _ _ h => h) him, r9, fun i hi hm => r12 i hi (hg g r3 i hm), fun hf i hm => r13 (hw hf) i (hg g r3 i hm)⟩

theorem endRes_good {R : Type} {T : Tab} (hT : TabOk F.P T) (q : Ty) (Qf : (s : St) → (q.D → Option R) → Option R) (RQ : Gh → q.D → Prop) (hQ : ∀ G s, Sim F G s a w → ∀ K r, Qf s K = some r → ∃ z, K z = some r ∧ RQ G z) :
    ∀ (rs : List RK) (rvs : List ResultVar) {G : Gh} {s : St} (h : Sim F G s a w) (K : (resT rs q).D → Option R) (r : R), rvs.length = rs.length → endRes T q rs rvs s Qf K = some r →
      ∃ y G' s' vs, K y = some r ∧ Sim F G' s' a w ∧ (∀ b i, G.im b i → G'.im b i) ∧ (∀ g L, G.ow g = some L → (∀ τ l wf ap ver, s.get L.1 ≠ .own τ l wf ap ver) → ∀ i, G'.im g i → G.im g i) ∧
        RunRes F.P a.tmps w rvs vs ∧ ResR w G'.im F.W0.heap.size rs q y vs ∧ RQ G' (restQ rs q y)
  | [], rvs, G, s, h, K, r, hl, he => by
    have : rvs = [] := List.eq_nil_of_length_eq_zero (by simpa using hl)
    subst this
    obtain ⟨z, h1, h2⟩ := hQ G s h K r he
    exact ⟨z, G, s, [], h1, h, fun _ _ h => h, fun _ _ _ _ _ h => h, rfl, rfl, h2⟩
  | .val τ :: rs, rvs, G, s, h, K, r, hl, he => by
    cases rvs with
    | nil => simp at hl
    | cons rv rvs =>
      cases rv with
      | cell t ty =>
        simp only [endRes, endVal] at he
        split at he
        · rename_i hty
          have hty := of_decide_eq_true hty
          obtain ⟨v, s', hpa, hp1⟩ := Cmd.run_path _ _ _ _ he
          obtain ⟨y, o, τo, p, b, off, _, _, _, _, hu, ⟨cs, hr, hra⟩, hp2⟩ := derefD_path h (h.vals t) hpa
          obtain ⟨rfl, rfl⟩ := hp2
          simp only at hp1
          split at hp1
          · rename_i y' hy'
            obtain ⟨e1, e2⟩ := cast_some hy'
            have e2 : y = y' := by simpa using e2
            subst e2
            obtain ⟨z, G', s2, vs, m1, m2, m3, m4, m5, m6, m7⟩ := endRes_good hT q Qf RQ hQ rs rvs h _ r (by simpa using hl) hp1
            exact ⟨(y, z), G', s2, valOf τ cs :: vs, m1, m2, m3, m4, ⟨_, _, _, _, rfl, hu, run_loadVar (hT _ _ hty) hra hr.length, m5⟩, ⟨_, _, rfl, (V_of_rep hr).mono (fun _ _ _ _ h => h) m3, m6⟩, m7⟩
          · cases hp1
        · cases he
      | tmp t =>
        simp only [endRes, endVal] at he
        obtain ⟨v, s', hpa, hp1⟩ := Cmd.run_path _ _ _ _ he
        have hx : Opd F G s a w (.tmp t) (s.get t) t := ⟨h.vals t, fun t' e => by cases e; exact ⟨rfl, rfl⟩, fun hx => absurd rfl (hx t)⟩
        obtain ⟨y, G1, s1, hk, hy, hp2, k1, k2⟩ := keepD_im h hx hpa
        obtain ⟨rfl, rfl⟩ := hp2
        simp only at hp1
        split at hp1
        · rename_i y' hy'
          obtain ⟨e1, e2⟩ := cast_some hy'
          have e2 : y = y' := by simpa using e2
          subst e2
          obtain ⟨z, G', s2, vs, m1, m2, m3, m4, m5, m6, m7⟩ := endRes_good hT q Qf RQ hQ rs rvs hk.sim _ r (by simpa using hl) hp1
          refine ⟨(y, z), G', s2, _, m1, m2, fun b i hi => m3 b i (hk.im b i hi), fun g L hL hn i hi => ?_, ⟨_, rfl, m5⟩, ⟨_, _, rfl, hy.mono (fun _ _ _ _ h => h) m3, m6⟩, m7⟩
          exact k1 g L hL hn i (m4 g L (by rw [hk.ow]; exact hL) (by rw [k2 L.1 hn]; exact hn) i hi)
        · cases hp1
  | .own τ wf :: rs, rvs, G, s, h, K, r, hl, he => by
    cases rvs with
    | nil => simp at hl
    | cons rv rvs =>
      cases rv with
      | cell _ _ => simp [endRes] at he
      | tmp t =>
        simp only [endRes] at he
        split at he
        · rename_i τ' l2 w' ver hs
          split at he
          · rename_i l3 hl3 hle
            obtain ⟨e1, e2⟩ := castL_some hl3
            subst e1; simp only at e2; subst e2
            obtain ⟨c1, c2⟩ := al_content h hs
            have htN : t < F.N := by rw [← h.env]; exact get_len hs (by intro e; cases e)
            have h0 := h.slot t .undef trivial fun n hn => hn.elim
            have hge : (s.put t .undef).get t = .undef := St.get_put_same _ _ _ (by rw [h.env]; exact htN)
            obtain ⟨z, G', s2, vs, m1, m2, m3, m4, m5, m6, m7⟩ := endRes_good hT q Qf RQ hQ rs rvs h0 _ r (by simpa using hl) he
            refine ⟨(l2, z), G', s2, _, m1, m2, m3, fun g L hL hn i hi => ?_, ⟨_, rfl, m5⟩, ⟨_, _, rfl, c2.fresh (leb_le hle) m3 (fun g hg i hi => m4 g (t, 0) hg (fun τ l wf ap ver he => by rw [hge] at he; cases he) i hi), m6⟩, m7⟩
            have hne : t ≠ L.1 := by rintro rfl; exact hn _ _ _ _ _ hs
            exact m4 g L hL (by rw [St.get_put_ne _ _ _ _ hne]; exact hn) i hi
          · cases he
        · rename_i hs
          obtain ⟨z, G', s2, vs, m1, m2, m3, m4, m5, m6, m7⟩ := endRes_good hT q Qf RQ hQ rs rvs h _ r (by simpa using hl) he
          have hv := h.vals t
          rw [hs] at hv
          exact ⟨([], z), G', s2, _, m1, m2, m3, m4, ⟨_, rfl, m5⟩, ⟨_, _, rfl, .inl ⟨hv, rfl⟩, m6⟩, m7⟩
        · cases he

/-- what a function hands back -/
def FinP (F : Frm) (fn : Func) (ps : List PK) (rs : List RK) (us : List Value) (y : (resT rs (refT ps)).D) (a : Act) (w : World) : Prop :=
  a.defers = [] ∧ ∃ (vs : List Value) (im' : Nat → Nat → Prop), (results fn a.tmps).run F.P w = .ok (retV vs) w ∧ Keep F.mu F.W0 w ∧ (∀ b i, F.im0 b i → im' b i) ∧ (∀ b i, im' b i → b < w.heap.size ∧ (b < F.W0.heap.size → F.im0 b i)) ∧
    ResR w im' F.W0.heap.size rs (refT ps) y vs ∧ RefsR w im' ps us (restQ rs (refT ps) y)

theorem end_good {R : Type} {T : Tab} (hT : TabOk F.P T) {fn : Func} {ps : List PK} {rs : List RK} {us : List Value} (hl : fn.results.toList.length = rs.length) (hpars : ParsAt F.par ps 0 us) {G : Gh} {s : St} (h : Sim F G s a w)
    {K : (resT rs (refT ps)).D → Option R} {r : R} (he : endRes T (refT ps) rs fn.results.toList s (fun s K => endRefs ps 0 s K) K = some r) : ∃ y, K y = some r ∧ FinP F fn ps rs us y a w := by
  obtain ⟨y, G', s', vs, h1, h2, h3, _, h4, h5, h6⟩ := endRes_good hT (refT ps) (fun s K => endRefs ps 0 s K) (fun G z => RefsR w G.im ps us z) (fun G s hS K r hk => endRefs_good hS ps 0 us K r hk hpars) rs fn.results.toList h K r hl he
  exact ⟨y, h1, h2.defers, vs, G'.im, run_results h4, h2.keep, h2.im0, fun b i hi => ⟨h2.imlt b i hi, fun hb => h2.imb b i hi hb⟩, h5, h6⟩

end
end Go.SX

-- SX: Sim33
namespace Go.SX
open Go.RowKit
set_option linter.unusedVariables false
set_option linter.unusedSimpArgs false

section
variable {F : Frm} {T : Tab} {cons : List Con}

theorem loop_ok (hT : TabOk F.P T) (hC : ∀ c ∈ cons, ConOk F.P c) (hm : F.P.follows .mixedOrders = true) {fn : Func} {ps : List PK} {rs : List RK} {us : List Value} (hl : fn.results.toList.length = rs.length)
    (hpars : ParsAt F.par ps 0 us) (hN : F.N = fn.ntmps) (hnp : F.np = ps.length) {ls : Nat → Option (LoopS (resT rs (refT ps)).D)} {id : Nat} {body : Code} {Ls : LoopS (resT rs (refT ps)).D}
    (Lf : Nat → (liveT Ls.inn).D → Option (LR (resT rs (refT ps)).D (liveT Ls.out).D)) (h0 : ∀ x, Lf 0 x = none) (hs : ∀ k x, Lf (k + 1) x = evalL T cons fn ps rs ls id body Ls.inn Ls.out (Lf k) x)
    (hrun : ∀ x r, Ls.run x = some r → ∃ k, Lf k x = some r) (hin : LoopsOk F (FinP F fn ps rs us) ls body) : LoopOk F (FinP F fn ps rs us) Ls (.block id (.loop body)) := by
  intro x r hr G a w h
  obtain ⟨k0, hk0⟩ := hrun x r hr
  refine wp_block (wp_loop_ghost (fun k a w => ∃ x G, Lf k x = some r ∧ Sim F G (unpack F.N F.np Ls.inn x) a w) k0 ⟨x, G, hk0, h⟩ ?_)
  rintro n a w ⟨x, G, hx, h⟩
  cases n with
  | zero => rw [h0] at hx; cases hx
  | succ k =>
    rw [hs] at hx
    unfold evalL at hx
    rw [← hN, ← hnp] at hx
    refine evalC_good (FinP F fn ps rs us) hT hC hm body hin _ _ (Exit.then (fun a' w' => ∃ n', n' < k + 1 ∧ ∃ x G, Lf n' x = some r ∧ Sim F G (unpack F.N F.np Ls.inn x) a' w') (Exit.inBlock id (LPost F (FinP F fn ps rs us) Ls r))) (fun y a w h1 h2 => ?_) hx h fun e s' hK G' a' w' hS => ?_
    · simp only [Option.some.injEq] at h1
      subst h1
      exact ⟨rfl, h2⟩
    · cases e with
      | norm =>
        obtain ⟨x', G2, h1, h2, _⟩ := pack_good Ls.inn hS _ _ hK
        exact ⟨k, Nat.lt_succ_self k, x', G2, h1, h2⟩
      | ret =>
        obtain ⟨y, h1, h2⟩ := end_good hT hl hpars hS hK
        simp only [Option.some.injEq] at h1
        subst h1
        exact ⟨rfl, h2⟩
      | exit i =>
        simp only at hK
        split at hK
        · rename_i hb
          obtain ⟨b, G2, h1, h2, _⟩ := pack_good Ls.out hS _ _ hK
          simp only [Option.some.injEq] at h1
          subst h1
          show Exit.inBlock id _ (.exit i) a' w'
          unfold Exit.inBlock
          simp only [Nat.eq_of_beq_eq_true hb, if_true]
          exact ⟨rfl, G2, h2⟩
        · cases hK

end
end Go.SX

-- SX: Sim34
namespace Go.SX
open Go.RowKit
set_option linter.unusedVariables false
set_option linter.unusedSimpArgs false

section
variable {F : Frm} {G G' : Gh} {s s' s1 s2 : St} {a : Act} {w w' w1 : World} {T : Tab} {cons : List Con}

/-- an object that is only read -/
theorem Sim.liveRo (h : Sim F G s a w) {o b off : Nat} {τ : Ty} {y : τ.D} (hd : o < F.N) (hno : (s.ob o).off = true) (hpar : ∀ x, F.par o = some x → (b, off, τ) = x) (hr : ObR F G w b off τ y false) (how : G.ow b = none)
    (hfar : ∀ o' b' off' τ', o' ≠ o → G.site o' = some (b', off', τ') → b ≠ b' ∨ off + τ.size ≤ off' ∨ off' + τ'.size ≤ off) :
    Sim F { G with site := fun o' => if o' = o then some (b, off, τ) else G.site o' } (s.setOb o (.ro τ y)) a w :=
  h.liveAny hd hno rfl hpar (fun _ _ e => by cases e) (fun _ _ e => by cases e; exact ⟨rfl, hr⟩) (fun _ _ _ e => by cases e) how hfar

/-- the places of the parameters' objects -/
def siteOf : List PK → Nat → List Value → Nat → Option (Nat × Nat × Ty)
  | .val _ :: ps, i, _ :: us, o => siteOf ps (i + 1) us o
  | .ref τ :: ps, i, u :: us, o => if o = i then some ((spotOf τ u).b, (spotOf τ u).off, τ) else siteOf ps (i + 1) us o
  | .ro τ :: ps, i, u :: us, o => if o = i then some ((spotOf τ u).b, (spotOf τ u).off, τ) else siteOf ps (i + 1) us o
  | _, _, _, _ => none

theorem siteOf_ge : ∀ (ps : List PK) (i : Nat) (us : List Value) (o : Nat) (y), siteOf ps i us o = some y → i ≤ o ∧ o < i + ps.length ∧ ∃ sp, sp ∈ spots ps us ∧ sp.b = y.1 ∧ sp.off = y.2.1 ∧ sp.n = y.2.2.size
  | [], i, us, o, y, h => by simp [siteOf] at h
  | .val _ :: ps, i, [], o, y, h => by simp [siteOf] at h
  | .ref _ :: ps, i, [], o, y, h => by simp [siteOf] at h
  | .ro _ :: ps, i, [], o, y, h => by simp [siteOf] at h
  | .val _ :: ps, i, u :: us, o, y, h => by
    obtain ⟨h1, h2, sp, h3, h4⟩ := siteOf_ge ps (i + 1) us o y h
    exact ⟨by omega, by simp; omega, sp, h3, h4⟩
  | .ref τ :: ps, i, u :: us, o, y, h => by
    simp only [siteOf] at h
    split at h
    · rename_i e
      cases h
      exact ⟨by omega, by simp; omega, spotOf τ u, by simp [spots], rfl, rfl, spotOf_n τ u⟩
    · obtain ⟨h1, h2, sp, h3, h4⟩ := siteOf_ge ps (i + 1) us o y h
      exact ⟨by omega, by simp; omega, sp, by simp [spots, h3], h4⟩
  | .ro τ :: ps, i, u :: us, o, y, h => by
    simp only [siteOf] at h
    split at h
    · rename_i e
      cases h
      exact ⟨by omega, by simp; omega, spotOf τ u, by simp [spots], rfl, rfl, spotOf_n τ u⟩
    · obtain ⟨h1, h2, sp, h3, h4⟩ := siteOf_ge ps (i + 1) us o y h
      exact ⟨by omega, by simp; omega, sp, by simp [spots, h3], h4⟩

theorem startS_ob (n np : Nat) : ∀ (ps : List PK) (i : Nat) (x : (argT ps).D) (o : Nat), o < i → ((startS n np ps i x).ob o).off = true
  | [], i, x, o, h => objs0_off np n o
  | .val τ :: ps, i, x, o, h => startS_ob n np ps (i + 1) x.2 o (by omega)
  | .ref τ :: ps, i, x, o, h => by
    simp only [startS, St.ob_put]
    rw [St.ob_setOb_ne _ _ _ _ (by omega)]; exact startS_ob n np ps (i + 1) x.2 o (by omega)
  | .ro τ :: ps, i, x, o, h => by
    simp only [startS, St.ob_put]
    rw [St.ob_setOb_ne _ _ _ _ (by omega)]; exact startS_ob n np ps (i + 1) x.2 o (by omega)

theorem PtR.ob {b off : Nat} {τ : Ty} {x : τ.D} {wr : Bool} (h : PtR w G.im b off τ x wr) (hm : wr = true → F.W0.heap.size ≤ b ∨ ∀ j, j < τ.size → F.mu b (off + j)) : ObR F G w b off τ x wr := by
  obtain ⟨cs, c, e, fz, h1, h2, h3, h4⟩ := h
  exact ⟨cs, c, e, fz, h1, h2, h3, fun hw => ⟨(h4 hw).1, (h4 hw).2, hm hw⟩⟩

theorem start_good (hd : a.defers = []) (ht : a.tmps.size = F.N) (hW : F.W0 = w) (hlt : ∀ b i, F.im0 b i → b < w.heap.size) (hpar : ∀ o x, F.par o = some x → o < F.np ∧ o < F.N) :
    ∀ (ps : List PK) (i : Nat) (us : List Value) (x : (argT ps).D), ArgsR w F.im0 ps x us → (∀ (j : Nat) (u : Value), us[j]? = some u → a.tmps.getD (i + j) undef = u) → i + ps.length ≤ F.N → (spots ps us).Pairwise Spot.apart →
      (∀ o y, siteOf ps i us o = some y → F.par o = some y) → (∀ sp, sp ∈ spotsW ps us → ∀ j, j < sp.n → F.mu sp.b (sp.off + j)) →
      ∃ G, Sim F G (startS F.N F.np ps i x) a w ∧ G.im = F.im0 ∧ G.site = siteOf ps i us ∧ G.ow = fun _ => none
  | [], i, us, x, ha, hus, hi, hap, hp, hmu => by
    have hget : ∀ t, (startS F.N F.np [] i x).get t = .undef := fun t => by
      simp only [startS, St.get, List.getD_eq_getElem?_getD, List.getElem?_replicate]
      split <;> rfl
    have hob : ∀ o, ((startS F.N F.np [] i x).ob o).off = true := fun o => objs0_off F.np F.N o
    refine ⟨⟨F.im0, fun _ => none, fun _ => undef, fun _ => none⟩, ⟨hd, ht, by simp [startS], objs0_len _ _, by simp [startS], by rw [hW]; exact Keep.refl _ _, fun t => by rw [hget]; trivial, fun o τ y hy => (by have := hob o; rw [hy] at this; cases this), fun o τ y hy => (by have := hob o; rw [hy] at this; cases this), fun o τ y k hy => (by have := hob o; rw [hy] at this; cases this),
      ⟨fun _ _ => rfl, fun o y hy => ?_⟩, fun o o' b off τ b' off' τ' _ h1 => (by cases h1), fun o b off τ h1 => (by cases h1), hlt, fun b i h _ => h, fun b i h => h, fun b L hL => (by cases hL), fun n _ t hn => (by rw [hget] at hn; exact hn)⟩, rfl, ?_, rfl⟩
    · obtain ⟨k1, k2⟩ := hpar o y hy
      refine ⟨k1, k2, ?_, fun z hz => by cases hz⟩
      intro e
      have := objs0_gone F.np F.N o k1 k2
      rw [show (startS F.N F.np [] i x).ob o = .gone from this] at e
      cases e
    · funext o; simp [siteOf]
  | .val τ :: ps, i, us, x, ha, hus, hi, hap, hp, hmu => by
    obtain ⟨u, us', rfl, hu, ha⟩ := ha
    obtain ⟨G, h1, h2, h3, h4⟩ := start_good hd ht hW hlt hpar ps (i + 1) us' x.2 ha (fun j u' hj => by have := hus (j + 1) u' (by simpa using hj); rwa [show i + 1 + j = i + (j + 1) by omega]) (by simp at hi; omega) hap hp hmu
    refine ⟨G, h1.slot i (.dat τ x.1) ?_ fun n hn => hn.elim, h2, h3, h4⟩
    have := hus 0 u rfl
    rw [Nat.add_zero] at this
    rw [this]
    show RepV w G.im τ x.1 u
    rw [h2]; exact hu
  | .ref τ :: ps, i, us, x, ha, hus, hi, hap, hp, hmu => by
    obtain ⟨b, off, us', rfl, hu, ha⟩ := ha
    simp only [spots, List.pairwise_cons] at hap
    obtain ⟨G, h1, h2, h3, h4⟩ := start_good hd ht hW hlt hpar ps (i + 1) us' x.2 ha (fun j u' hj => by have := hus (j + 1) u' (by simpa using hj); rwa [show i + 1 + j = i + (j + 1) by omega]) (by simp at hi; omega) hap.2 (fun o y hy => hp o y (by
      have := (siteOf_ge ps (i + 1) us' o y hy).1
      simp only [siteOf]; rw [if_neg (by omega)]; exact hy)) (fun sp hs => hmu sp (by simp [spotsW, hs]))
    have hob : ObR F G w b off τ x.1 true := PtR.ob (by rw [h2]; exact hu) fun _ => .inr fun j hj => hmu (spotOf τ (.pointer (some ⟨b, off, none⟩))) (by simp [spotsW]) j hj
    have h5 := h1.liveOb (o := i) (by simp at hi; omega) (startS_ob _ _ ps (i + 1) x.2 i (by omega)) (fun z hz => by
      have := hp i (b, off, τ) (by simp [siteOf, spotOf])
      rw [this] at hz; cases hz; rfl) hob (by rw [h4]) fun o' b' off' τ' hne hs => by
        rw [h3] at hs
        obtain ⟨_, _, sp, k1, k2, k3, k4⟩ := siteOf_ge ps (i + 1) us' o' _ hs
        have := hap.1 sp k1
        simp only [Spot.apart, spotOf] at this
        simp only at k2 k3 k4
        rw [k2, k3, k4] at this
        exact this
    refine ⟨_, h5.slot i (.ptr i τ []) ⟨b, off, by simp, trivial, ?_⟩ fun n hn => hn.elim, h2, ?_, h4⟩
    · have := hus 0 _ rfl
      rw [Nat.add_zero] at this
      rw [this]; simp [offP]
    · funext o
      simp only [siteOf, spotOf, h3]
  | .ro τ :: ps, i, us, x, ha, hus, hi, hap, hp, hmu => by
    obtain ⟨b, off, us', rfl, hu, ha⟩ := ha
    simp only [spots, List.pairwise_cons] at hap
    obtain ⟨G, h1, h2, h3, h4⟩ := start_good hd ht hW hlt hpar ps (i + 1) us' x.2 ha (fun j u' hj => by have := hus (j + 1) u' (by simpa using hj); rwa [show i + 1 + j = i + (j + 1) by omega]) (by simp at hi; omega) hap.2 (fun o y hy => hp o y (by
      have := (siteOf_ge ps (i + 1) us' o y hy).1
      simp only [siteOf]; rw [if_neg (by omega)]; exact hy)) hmu
    have hob : ObR F G w b off τ x.1 false := PtR.ob (by rw [h2]; exact hu) fun e => by cases e
    have h5 := h1.liveRo (o := i) (by simp at hi; omega) (startS_ob _ _ ps (i + 1) x.2 i (by omega)) (fun z hz => by
      have := hp i (b, off, τ) (by simp [siteOf, spotOf])
      rw [this] at hz; cases hz; rfl) hob (by rw [h4]) fun o' b' off' τ' hne hs => by
        rw [h3] at hs
        obtain ⟨_, _, sp, k1, k2, k3, k4⟩ := siteOf_ge ps (i + 1) us' o' _ hs
        have := hap.1 sp k1
        simp only [Spot.apart, spotOf] at this
        simp only at k2 k3 k4
        rw [k2, k3, k4] at this
        exact this
    refine ⟨_, h5.slot i (.ptr i τ []) ⟨b, off, by simp, trivial, ?_⟩ fun n hn => hn.elim, h2, ?_, h4⟩
    · have := hus 0 _ rfl
      rw [Nat.add_zero] at this
      rw [this]; simp [offP]
    · funext o
      simp only [siteOf, spotOf, h3]

end
end Go.SX

-- SX: Sim35
namespace Go.SX
open Go.RowKit
set_option linter.unusedVariables false
set_option linter.unusedSimpArgs false

theorem args_len {w : World} {im : Nat → Nat → Prop} : ∀ (ps : List PK) (x : (argT ps).D) (us : List Value), ArgsR w im ps x us → us.length = ps.length
  | [], x, us, h => by rw [show us = [] from h]; rfl
  | .val τ :: ps, x, us, h => by obtain ⟨u, us', rfl, _, h⟩ := h; simp [args_len ps x.2 us' h]
  | .ref τ :: ps, x, us, h => by obtain ⟨b, off, us', rfl, _, h⟩ := h; simp [args_len ps x.2 us' h]
  | .ro τ :: ps, x, us, h => by obtain ⟨b, off, us', rfl, _, h⟩ := h; simp [args_len ps x.2 us' h]

theorem pars_at {w : World} {im : Nat → Nat → Prop} {par : Nat → Option (Nat × Nat × Ty)} : ∀ (ps : List PK) (i : Nat) (x : (argT ps).D) (us : List Value), ArgsR w im ps x us → (∀ o y, siteOf ps i us o = some y → par o = some y) → ParsAt par ps i us
  | [], i, x, us, h, hp => h
  | .val τ :: ps, i, x, us, h, hp => by obtain ⟨u, us', rfl, _, h⟩ := h; exact ⟨u, us', rfl, pars_at ps (i + 1) x.2 us' h hp⟩
  | .ref τ :: ps, i, x, us, h, hp => by
    obtain ⟨b, off, us', rfl, _, h⟩ := h
    refine ⟨b, off, us', rfl, hp i _ (by simp [siteOf, spotOf]), pars_at ps (i + 1) x.2 us' h fun o y hy => hp o y ?_⟩
    have := (siteOf_ge ps (i + 1) us' o y hy).1
    simp only [siteOf]; rw [if_neg (by omega)]; exact hy
  | .ro τ :: ps, i, x, us, h, hp => by
    obtain ⟨b, off, us', rfl, _, h⟩ := h
    refine ⟨_, us', rfl, pars_at ps (i + 1) x.2 us' h fun o y hy => hp o y ?_⟩
    have := (siteOf_ge ps (i + 1) us' o y hy).1
    simp only [siteOf]; rw [if_neg (by omega)]; exact hy

theorem mus_im {w : World} {im : Nat → Nat → Prop} : ∀ (ps : List PK) (x : (argT ps).D) (us : List Value), ArgsR w im ps x us → ∀ b i, mus ps us b i → ¬ im b i
  | [], x, us, h, b, i, ⟨sp, hs, _⟩ => by cases us <;> cases hs
  | .val τ :: ps, x, us, h, b, i, hm => by
    obtain ⟨u, us', rfl, _, h⟩ := h
    exact mus_im ps x.2 us' h b i hm
  | .ro τ :: ps, x, us, h, b, i, hm => by
    obtain ⟨b0, off, us', rfl, _, h⟩ := h
    exact mus_im ps x.2 us' h b i hm
  | .ref τ :: ps, x, us, h, b, i, ⟨sp, hs, e1, e2, e3⟩ => by
    obtain ⟨b0, off, us', rfl, hp, h⟩ := h
    rcases List.mem_cons.1 (show sp ∈ spotOf τ (.pointer (some ⟨b0, off, none⟩)) :: spotsW ps us' from hs) with rfl | hs
    · obtain ⟨cs, c, e, fz, _, _, _, hw⟩ := hp
      have e1' : b0 = b := e1
      have e2' : off ≤ i := e2
      have e3' : i < off + τ.size := e3
      have := (hw rfl).2 (i - off) (by omega)
      rw [show off + (i - off) = i from by omega, e1'] at this
      exact this
    · exact mus_im ps x.2 us' h b i ⟨sp, hs, e1, e2, e3⟩

theorem func_ok {P : Program} {T : Tab} {cons : List Con} {fn : Func} {body : Code} {ps : List PK} {rs : List RK} {f : Nat} {ls : Nat → Option (LoopS (resT rs (refT ps)).D)} (hT : TabOk P T) (hC : ∀ c ∈ cons, ConOk P c) (hm : P.follows .mixedOrders = true)
    (hf : P.funcs[f]? = some fn) (hb : fn.body = some body) (hname : (fn.name == "runtime.NumGoroutine") = false) (hl : fn.results.toList.length = rs.length) (hnp : ps.length ≤ fn.ntmps)
    (Fx : (argT ps).D → Option (resT rs (refT ps)).D) (hF : ∀ x, Fx x = evalF T cons fn ps rs ls x)
    (hloops : ∀ (F : Frm) (us : List Value), F.P = P → F.N = fn.ntmps → F.np = ps.length → ParsAt F.par ps 0 us → LoopsOk F (FinP F fn ps rs us) ls body) : ConOk P ⟨f, ps, rs, Fx, 0⟩ := by
  show ConOk0 P ⟨f, ps, rs, Fx, 0⟩
  intro im0 w x r us hx hargs hap him hgl
  simp only at hx hargs hap
  have hne : ¬ fn.name = "runtime.NumGoroutine" := by simpa using hname
  refine .inl ⟨by simp [callFunc, hf, hb, hne], ?_⟩
  let F : Frm := { P := P, T := T, W0 := w, mu := mus ps us, im0 := im0, N := fn.ntmps, np := ps.length, par := siteOf ps 0 us, glob := hgl, mi := mus_im ps x us hargs }
  have hul := args_len ps x us hargs
  have hpars : ParsAt F.par ps 0 us := pars_at ps 0 x us hargs fun o y h => h
  refine calls_of_wp hf hb ?_
  obtain ⟨G, hS, _⟩ := start_good (F := F) (a := { tmps := us.toArray ++ Array.replicate (fn.ntmps - us.toArray.size) undef, defers := [] }) (w := w) rfl (by simp [F]; omega) rfl him (fun o y hy => by
      have := siteOf_ge ps 0 us o y hy
      have h1 : F.np = ps.length := rfl
      have h2 : F.N = fn.ntmps := rfl
      rw [h1, h2]; omega) ps 0 us x hargs (fun j u hj => by
      have hlt : j < us.length := by
        rcases Nat.lt_or_ge j us.length with h | h
        · exact h
        · rw [List.getElem?_eq_none h] at hj; cases hj
      rw [Nat.zero_add, Array.getD_eq_getD_getElem?, Array.getElem?_append_left (by simpa using hlt)]
      simp [hj]) (by show 0 + ps.length ≤ fn.ntmps; omega) hap (fun o y h => h) (fun sp hs j hj => ⟨sp, hs, rfl, by omega, by omega⟩)
  rw [hF] at hx
  unfold evalF at hx
  rw [hb] at hx
  simp only at hx
  have fin : ∀ (y : (resT rs (refT ps)).D) (a : Act) (w' : World), y = r → FinP F fn ps rs us y a w' → a.defers = [] ∧ ∃ v, (results fn a.tmps).run P w' = .ok v w' ∧ ∃ (vs : List Value) (im' : Nat → Nat → Prop), Ending.returned v = .returned (retV vs) ∧ Keep (mus ps us) w w' ∧ (∀ b i, im0 b i → im' b i) ∧
      (∀ b i, im' b i → b < w'.heap.size ∧ (b < w.heap.size → im0 b i)) ∧ ResR w' im' w.heap.size rs (refT ps) r vs ∧ RefsR w' im' ps us (restQ rs (refT ps) r) := by
    rintro y a w' rfl ⟨h1, vs, im', h2, h3⟩
    exact ⟨h1, _, h2, vs, im', rfl, h3⟩
  refine evalC_good (F := F) (FinP F fn ps rs us) hT hC hm body (hloops F us rfl rfl rfl hpars) _ _ _ (fun y a w' h1 h2 => fin y a w' (by simpa using h1) h2) hx hS fun e s' hK G' a' w' hS' => ?_
  cases e with
  | norm =>
    obtain ⟨y, h1, h2⟩ := end_good hT hl hpars hS' hK
    exact fin y a' w' (by simpa using h1) h2
  | ret =>
    obtain ⟨y, h1, h2⟩ := end_good hT hl hpars hS' hK
    exact fin y a' w' (by simpa using h1) h2
  | exit i => cases hK

end Go.SX

-- SX: Sim36
namespace Go.SX
open Go.RowKit
set_option linter.unusedVariables false
set_option linter.unusedSimpArgs false

def sameV : Value → Value → Bool
  | .int k n, .int k' n' => decide (k = k') && decide (n = n')
  | .bool b, .bool b' => b == b'
  | .string s, .string s' => match s.data.toList, s'.data.toList with
    | [], [] => true
    | _, _ => false
  | .slice none 0 0, .slice none 0 0 => true
  | .pointer none, .pointer none => true
  | _, _ => false
theorem sameV_spec {x y : Value} (h : sameV x y = true) : x = y := by
  unfold sameV at h
  split at h
  · simp only [Bool.and_eq_true, decide_eq_true_eq] at h
    rw [h.1, h.2]
  · rw [beq_iff_eq.1 h]
  · rename_i s s'
    split at h
    · rename_i h1 h2
      have e1 : s.data = s'.data := by apply Array.ext'; rw [h1, h2]
      cases s; cases s'; simp only at e1; rw [e1]
    · cases h
  · rfl
  · rfl
  · cases h
def sameL : List Value → List Value → Bool
  | [], [] => true
  | x :: l, y :: m => match sameV x y with | true => sameL l m | false => false
  | _, _ => false
theorem sameL_spec : ∀ {l m : List Value}, sameL l m = true → l = m
  | [], [], _ => rfl
  | [], _ :: _, h => by cases h
  | _ :: _, [], h => by cases h
  | x :: l, y :: m, h => by
    simp only [sameL] at h
    split at h
    · rename_i e; rw [sameV_spec e, sameL_spec h]
    · cases h
def sameZ (τ : Ty) (v : Value) : Bool := match isAggT τ with
  | true => match v with
    | .agg cs => sameL cs.toList (zeroCs τ)
    | _ => false
  | false => match zeroCs τ with
    | [z] => sameV v z
    | _ => false
theorem sameZ_spec {τ : Ty} {v : Value} (h : sameZ τ v = true) : v = valOf τ (zeroCs τ) := by
  unfold sameZ at h
  unfold valOf
  split at h
  · rename_i e
    split at h
    · rename_i cs
      rw [e]
      simp only [← sameL_spec h, Array.toArray_toList]
    · cases h
  · rename_i e
    split at h
    · rename_i z hz
      rw [e, hz, sameV_spec h]; rfl
    · cases h

def fieldsB (T : Tab) : List Field → Nat → Ty → Bool
  | [], _, .snil => true
  | f :: fs, o, .scons t r => match decide (T.ty f.type = some t) && (Nat.beq f.offset o && !(f.name == "_")) with
    | true => fieldsB T fs (o + t.size) r
    | false => false
  | _, _, _ => false
theorem fieldsB_spec {T : Tab} : ∀ {fs : List Field} {o : Nat} {τ : Ty}, fieldsB T fs o τ = true → TyUnd.FieldsOk T fs o τ
  | [], o, .snil, _ => trivial
  | f :: fs, o, .scons t r, h => by
    simp only [fieldsB] at h
    split at h
    · rename_i e
      simp only [Bool.and_eq_true, decide_eq_true_eq, Bool.not_eq_true', beq_eq_false_iff_ne] at e
      exact ⟨e.1, Nat.eq_of_beq_eq_true e.2.1, e.2.2, fieldsB_spec h⟩
    · cases h
  | [], o, .int _, h => by simp [fieldsB] at h
  | [], o, .bool, h => by simp [fieldsB] at h
  | [], o, .str, h => by simp [fieldsB] at h
  | [], o, .scons _ _, h => by simp [fieldsB] at h
  | [], o, .arr _ _, h => by simp [fieldsB] at h
  | [], o, .slice _, h => by simp [fieldsB] at h
  | f :: fs, o, .int _, h => by simp [fieldsB] at h
  | f :: fs, o, .bool, h => by simp [fieldsB] at h
  | f :: fs, o, .str, h => by simp [fieldsB] at h
  | f :: fs, o, .snil, h => by simp [fieldsB] at h
  | f :: fs, o, .arr _ _, h => by simp [fieldsB] at h
  | f :: fs, o, .slice _, h => by simp [fieldsB] at h

def undB (P : Program) (T : Tab) (t : Nat) (τ : Ty) : Bool := match P.underlying t, τ with
  | some (.int k), .int k' => decide (k = k')
  | some .bool, .bool => true
  | some .string, .str => true
  | some (.slice e), .slice τ => decide (T.ty e = some τ) && (match P.info? e with | some i => Nat.ble i.bytes 128 | none => false)
  | some (.array n e), .arr m τ => Nat.beq n m && decide (T.ty e = some τ)
  | some (.struct fs), .snil => fieldsB T fs.toList 0 .snil
  | some (.struct fs), .scons a b => fieldsB T fs.toList 0 (.scons a b)
  | some (.struct fs), .bld e _ => Nat.beq t e
  | _, _ => false
theorem undB_spec {P : Program} {T : Tab} {t : Nat} {τ : Ty} (h : undB P T t τ = true) : TyUnd P T t τ := by
  unfold undB at h
  split at h
  · rename_i k k' hu
    rw [show k' = k from (of_decide_eq_true h).symm]; exact hu
  · rename_i hu; exact hu
  · rename_i hu; exact hu
  · rename_i e τ' hu
    simp only [Bool.and_eq_true, decide_eq_true_eq] at h
    obtain ⟨h1, h2⟩ := h
    split at h2
    · rename_i i hi
      exact ⟨e, i, hu, h1, hi, Nat.le_of_ble_eq_true h2⟩
    · cases h2
  · rename_i n e m τ' hu
    simp only [Bool.and_eq_true, decide_eq_true_eq] at h
    have := Nat.eq_of_beq_eq_true h.1
    subst this
    exact ⟨e, hu, h.2⟩
  · rename_i fs hu; exact ⟨fs, hu, fieldsB_spec h⟩
  · rename_i fs a b hu; exact ⟨fs, hu, fieldsB_spec h⟩
  · rename_i fs e u hu; exact ⟨Nat.eq_of_beq_eq_true h, fs, hu⟩
  · cases h

def factB (P : Program) (T : Tab) (t : Nat) (τ : Ty) : Bool :=
  (match P.info? t with
    | some i => Nat.beq i.size τ.size && (match i.zero with | some z => sameZ τ z | none => false)
    | none => false) && (undB P T t τ && (!(P.stoodInHeld t) && !(P.eqGuardType P.depth t)))
theorem factB_spec {P : Program} {T : Tab} {t : Nat} {τ : Ty} (h : factB P T t τ = true) : TyFact P T t τ := by
  unfold factB at h
  simp only [Bool.and_eq_true, Bool.not_eq_true'] at h
  obtain ⟨h1, h2, h3, h4⟩ := h
  refine ⟨?_, undB_spec h2, h3, h4⟩
  split at h1
  · rename_i i hi
    simp only [Bool.and_eq_true] at h1
    obtain ⟨k1, k2⟩ := h1
    split at k2
    · rename_i z hz
      exact ⟨i, hi, Nat.eq_of_beq_eq_true k1, by rw [hz, sameZ_spec k2]⟩
    · cases k2
  · cases h1

def tabB (P : Program) (T : Tab) : Nat → List (Option Ty) → Bool
  | _, [] => true
  | t, none :: l => tabB P T (t + 1) l
  | t, some τ :: l => match factB P T t τ with | true => tabB P T (t + 1) l | false => false
theorem tabB_spec {P : Program} {T : Tab} : ∀ {l : List (Option Ty)} {i : Nat}, tabB P T i l = true → ∀ t τ, l[t]? = some (some τ) → TyFact P T (i + t) τ
  | [], i, _, t, τ, ht => by simp at ht
  | none :: l, i, h, t, τ, ht => by
    cases t with
    | zero => simp at ht
    | succ t => have := tabB_spec (i := i + 1) h t τ (by simpa using ht); rwa [show i + (t + 1) = i + 1 + t by omega]
  | some σ :: l, i, h, t, τ, ht => by
    simp only [tabB] at h
    split at h
    · rename_i e
      cases t with
      | zero => simp at ht; subst ht; exact factB_spec e
      | succ t => have := tabB_spec (i := i + 1) h t τ (by simpa using ht); rwa [show i + (t + 1) = i + 1 + t by omega]
    · cases h
theorem tab_ok {P : Program} {T : Tab} (h : tabB P T 0 T = true) : TabOk P T := by
  intro t τ ht
  have := tabB_spec h t τ (by
    simp only [Tab.ty, List.getD_eq_getElem?_getD] at ht
    cases hg : T[t]? with
    | none => rw [hg] at ht; cases ht
    | some o => rw [hg] at ht; simp at ht; rw [ht])
  rwa [Nat.zero_add] at this

end Go.SX

-- SX: Sim37
namespace Go.SX
open Go.RowKit
set_option linter.unusedVariables false
set_option linter.unusedSimpArgs false

def loopsOf : Code → List (Nat × Code)
  | .seq a b => loopsOf a ++ loopsOf b
  | .cond _ a b => loopsOf a ++ loopsOf b
  | .block id (.loop body) => [(id, body)]
  | .block _ a => loopsOf a
  | _ => []

theorem loops_of {ρ : Type} {F : Frm} {Fin : ρ → Act → World → Prop} {ls : Nat → Option (LoopS ρ)} : ∀ (c : Code), (∀ p, p ∈ loopsOf c → ∀ Ls, ls p.1 = some Ls → LoopOk F Fin Ls (.block p.1 (.loop p.2))) → LoopsOk F Fin ls c
  | .seq a b, h => ⟨loops_of a fun p hp => h p (List.mem_append_left _ hp), loops_of b fun p hp => h p (List.mem_append_right _ hp)⟩
  | .cond _ a b, h => ⟨loops_of a fun p hp => h p (List.mem_append_left _ hp), loops_of b fun p hp => h p (List.mem_append_right _ hp)⟩
  | .block id c, h => by
    by_cases hc : ∃ b, c = .loop b
    · obtain ⟨body, rfl⟩ := hc
      exact fun Ls hLs => h (id, body) (by simp [loopsOf]) Ls hLs
    · have hc' : ∀ b, c ≠ .loop b := fun b e => hc ⟨b, e⟩
      rw [block_loops hc']
      refine loops_of c fun p hp => h p ?_
      have : loopsOf (.block id c) = loopsOf c := by cases c <;> first | rfl | exact absurd rfl (hc' _)
      rw [this]; exact hp
  | .skip, h => trivial
  | .region .., h => trivial
  | .loop _, h => trivial
  | .exit _, h => trivial
  | .ret, h => trivial
  | .label _, h => trivial
  | .goto _, h => trivial
  | .rangeFunc .., h => trivial
  | .scope _, h => trivial
  | .refuse _, h => trivial

end Go.SX

-- SX: Sim38
namespace Go.SX
open Go.RowKit
set_option linter.unusedVariables false
set_option linter.unusedSimpArgs false

def allLoops : Code → List (Nat × Code)
  | .seq a b => allLoops a ++ allLoops b
  | .cond _ a b => allLoops a ++ allLoops b
  | .block id c => match c with
    | .loop body => (id, body) :: allLoops body
    | c => allLoops c
  | .loop c => allLoops c
  | _ => []

def bodyOf (f : Func) : Code := match f.body with | some c => c | none => .skip
/-- a loop's code, by its number -/
def loopIn (c : Code) (id : Nat) : Code := match (allLoops c).find? (fun p => Nat.beq p.1 id) with | some p => p.2 | none => .skip

theorem all_loops {ρ : Type} {F : Frm} {Fin : ρ → Act → World → Prop} {ls : Nat → Option (LoopS ρ)} : ∀ (c : Code), (∀ p, p ∈ allLoops c → ∀ Ls, ls p.1 = some Ls → LoopsOk F Fin ls p.2 → LoopOk F Fin Ls (.block p.1 (.loop p.2))) → LoopsOk F Fin ls c
  | .seq a b, h => ⟨all_loops a fun p hp => h p (List.mem_append_left _ hp), all_loops b fun p hp => h p (List.mem_append_right _ hp)⟩
  | .cond _ a b, h => ⟨all_loops a fun p hp => h p (List.mem_append_left _ hp), all_loops b fun p hp => h p (List.mem_append_right _ hp)⟩
  | .block id (.loop body), h => fun Ls hLs => h (id, body) (by simp [allLoops]) Ls hLs (all_loops body fun p hp => h p (by simp [allLoops, hp]))
  | .block id (.seq a b), h => all_loops (.seq a b) fun p hp => h p hp
  | .block id (.cond x a b), h => all_loops (.cond x a b) fun p hp => h p hp
  | .block id (.block j c), h => all_loops (.block j c) fun p hp => h p hp
  | .block id .skip, h => trivial
  | .block id (.region ..), h => trivial
  | .block id (.exit _), h => trivial
  | .block id .ret, h => trivial
  | .block id (.label _), h => trivial
  | .block id (.goto _), h => trivial
  | .block id (.rangeFunc ..), h => trivial
  | .block id (.scope _), h => trivial
  | .block id (.refuse _), h => trivial
  | .skip, h => trivial
  | .region .., h => trivial
  | .loop _, h => trivial
  | .exit _, h => trivial
  | .ret, h => trivial
  | .label _, h => trivial
  | .goto _, h => trivial
  | .rangeFunc .., h => trivial
  | .scope _, h => trivial
  | .refuse _, h => trivial

theorem func_all {P : Program} {T : Tab} {cons : List Con} {fn : Func} {body : Code} {ps : List PK} {rs : List RK} {f : Nat} {ls : Nat → Option (LoopS (resT rs (refT ps)).D)} (hT : TabOk P T) (hC : ∀ c ∈ cons, ConOk P c) (hm : P.follows .mixedOrders = true)
    (hf : P.funcs[f]? = some fn) (hb : fn.body = some body) (hname : (fn.name == "runtime.NumGoroutine") = false) (hl : fn.results.toList.length = rs.length) (hnp : Nat.ble ps.length fn.ntmps = true)
    (Fx : (argT ps).D → Option (resT rs (refT ps)).D) (hF : ∀ x, Fx x = evalF T cons fn ps rs ls x)
    (hloops : ∀ p, p ∈ allLoops body → ∀ Ls, ls p.1 = some Ls → ∃ Lf : Nat → (liveT Ls.inn).D → Option (LR (resT rs (refT ps)).D (liveT Ls.out).D), (∀ x, Lf 0 x = none) ∧ (∀ k x, Lf (k + 1) x = evalL T cons fn ps rs ls p.1 p.2 Ls.inn Ls.out (Lf k) x) ∧ ∀ x r, Ls.run x = some r → ∃ k, Lf k x = some r) : ConOk P ⟨f, ps, rs, Fx, 0⟩ := by
  refine func_ok hT hC hm hf hb hname hl (Nat.le_of_ble_eq_true hnp) Fx hF fun F us hP hN hnp hpars => all_loops body fun p hp Ls hLs hin => ?_
  obtain ⟨Lf, h0, h1, h2⟩ := hloops p hp Ls hLs
  subst hP
  exact loop_ok hT hC hm hl hpars hN hnp Lf h0 h1 h2 hin
end Go.SX

-- SX: Row
namespace Go.SX
open Go.RowKit Go.ChangeShapes Go.WideShapes Go.ChangeAt
set_option linter.unusedVariables false
set_option linter.unusedSimpArgs false

/-- what is known of a datum that came in -/
def OkD : (τ : Ty) → τ.D → Prop
  | .int k, x => k.wrap x = x
  | .str, x => (∀ n ∈ (show List Int from x), 0 ≤ n ∧ n < 256) ∧ (show List Int from x).length ≤ maxLen
  | .scons t r, x => OkD t x.1 ∧ OkD r x.2
  | .arr n t, x => (show List t.D from x).length = n ∧ ∀ y ∈ (show List t.D from x), OkD t y
  | .slice t, x => (show List t.D from x).length ≤ maxLen ∧ ∀ y ∈ (show List t.D from x), OkD t y
  | _, _ => True

theorem ok_rep {w : World} {im : Nat → Nat → Prop} : ∀ {τ : Ty} {x : τ.D} {cs : List Value}, Rep w im τ x cs → OkD τ x
  | .int k, x, cs, h => h.2
  | .bool, x, cs, h => trivial
  | .str, x, cs, h => by
    obtain ⟨b, _, rfl, hb⟩ := h
    refine ⟨fun n hn => ?_, ?_⟩
    · unfold bytesD at hn
      obtain ⟨c, _, rfl⟩ := List.mem_map.1 hn
      have := c.toNat_lt
      omega
    · show (bytesD b).length ≤ maxLen
      rw [bytesD_len]; exact hb
  | .snil, x, cs, h => trivial
  | .scons t r, x, cs, h => by
    obtain ⟨c1, c2, _, h1, h2⟩ := h
    exact ⟨ok_rep h1, ok_rep h2⟩
  | .arr n t, x, cs, h => by
    obtain ⟨hn, css, _, h⟩ := h
    refine ⟨hn, fun y hy => ?_⟩
    obtain ⟨i, hi, rfl⟩ := List.getElem_of_mem hy
    obtain ⟨c, _, hc⟩ := h.get i _ (List.getElem?_eq_getElem hi)
    exact ok_rep hc
  | .slice t, x, cs, h => by
    obtain ⟨a, cap, _, hl, hm, h⟩ := h
    refine ⟨Nat.le_trans hl hm, fun y hy => ?_⟩
    rcases h with h | ⟨b, o, _, css, h, _⟩
    · rw [h] at hy; cases hy
    · obtain ⟨i, hi, rfl⟩ := List.getElem_of_mem hy
      obtain ⟨c, _, hc⟩ := h.get i _ (List.getElem?_eq_getElem hi)
      exact ok_rep hc
  | .vec _ _, x, cs, h => trivial
  | .bld _ _, x, cs, h => trivial

/-- types of data that can come in -/
def argT? : Ty → Bool
  | .int _ => true
  | .bool => true
  | .str => true
  | .snil => true
  | .scons t r => argT? t && argT? r
  | .arr _ t => argT? t
  | .slice t => szPos t && argT? t
  | _ => false

section
variable {P : Program} {T : Tab} {H : Type} {enc : TypeId × Value → H} {w : World} {spare : Nat → Bool} {held : Bool}

theorem cellsOf_ty {t : Nat} {τ : Ty} (h : TyFact P T t τ) : P.cellsOf t = τ.size := by
  obtain ⟨i, h1, h2, _⟩ := h.info
  simp [Program.cellsOf, h1, h2]

/-- everything that lies in memory -/
def imAll (w : World) : Nat → Nat → Prop := fun b _ => b < w.heap.size

theorem all2_of {α β : Type} {R : α → β → Prop} : ∀ (m : List β), (∀ (i : Nat) (b : β), m[i]? = some b → ∃ a, R a b) → ∃ l, All2 R l m
  | [], _ => ⟨[], trivial⟩
  | b :: m, h => by
    obtain ⟨a, ha⟩ := h 0 b rfl
    obtain ⟨l, hl⟩ := all2_of m fun i b hb => h (i + 1) b (by simpa using hb)
    exact ⟨a :: l, ha, hl⟩

theorem mapM_get {α : Type} {f : Nat → Option α} : ∀ {l : List Nat} {m : List α}, l.mapM f = some m → m.length = l.length ∧ ∀ (i n : Nat), l[i]? = some n → f n = m[i]?
  | [], m, h => by
    rw [List.mapM_nil] at h
    cases h
    exact ⟨rfl, fun i n hn => by simp at hn⟩
  | n :: l, m, h => by
    rw [List.mapM_cons] at h
    cases hf : f n with
    | none => rw [hf] at h; cases h
    | some a =>
      rw [hf] at h
      cases hm : l.mapM f with
      | none => simp [hm] at h
      | some m' =>
        simp [hm] at h
        subst h
        obtain ⟨h1, h2⟩ := mapM_get hm
        refine ⟨by simp [h1], fun i k hk => ?_⟩
        cases i with
        | zero => simp at hk; subst hk; simpa using hf
        | succ i => simpa using h2 i k (by simpa using hk)

theorem cells_get {a : Addr} {n : Nat} {cs : List Value} (h : w.cells? 0 a n = some cs) : cs.length = n ∧ ∀ i, i < n → w.cell? (a.add i) = cs[i]? := by
  unfold World.cells? at h
  rw [if_pos (Nat.zero_le _)] at h
  obtain ⟨h1, h2⟩ := mapM_get h
  exact ⟨by simpa using h1, fun i hi => h2 i i (by simp [hi])⟩

theorem flatten_at {css : List (List Value)} {n : Nat} (hpos : 0 < n) (h : ∀ c ∈ css, c.length = n) (j : Nat) (v : Value) (hj : css.flatten[j]? = some v) : ∃ c, css[j / n]? = some c ∧ c[j % n]? = some v := by
  induction css generalizing j with
  | nil => simp at hj
  | cons c css ih =>
    have hc := h c List.mem_cons_self
    rw [List.flatten_cons] at hj
    by_cases hlt : j < n
    · rw [List.getElem?_append_left (by omega)] at hj
      rw [Nat.div_eq_of_lt hlt, Nat.mod_eq_of_lt hlt]
      exact ⟨c, rfl, hj⟩
    · rw [List.getElem?_append_right (by omega), hc] at hj
      obtain ⟨d, h1, h2⟩ := ih (fun c hc => h c (List.mem_cons_of_mem _ hc)) (j - n) hj
      have e1 : j / n = (j - n) / n + 1 := by
        rw [← Nat.sub_add_cancel (Nat.le_of_not_lt hlt), Nat.add_div_right _ hpos]; simp
      have e2 : j % n = (j - n) % n := by
        conv => lhs; rw [← Nat.sub_add_cancel (Nat.le_of_not_lt hlt)]
        rw [Nat.add_mod_right]
      rw [e1, e2]
      exact ⟨d, by simpa using h1, h2⟩

theorem rep_trod (hT : TabOk P T) : ∀ (τ : Ty), argT? τ = true →
    (∀ (t fuel : Nat) (cs : List Value) (y : DataW H × List MemPlace), T.ty t = some τ → DataW.trod enc P w 0 spare held fuel t cs = some y → ∃ x, Rep w (imAll w) τ x cs) ∧
    (∀ (fs : List Field) (off : Nat) (cs : List Value), TyUnd.FieldsOk T fs off τ → cs.length = off + τ.size → (∀ (i : Nat) (f : Field), fs[i]? = some f → ∃ n y, DataW.trod enc P w 0 spare held n f.type ((cs.drop f.offset).take (P.cellsOf f.type)) = some y) → ∃ x, Rep w (imAll w) τ x (cs.drop off))
  | .int k, _ => ⟨fun t fuel cs y ht h => by
      obtain ⟨n, rfl, _, hwf⟩ := DataW.trod_int (hT t _ ht).und h
      refine ⟨n, rfl, ?_⟩
      rw [wrap_range]
      simpa [Lit.wf] using hwf, fun fs off cs hf => by cases fs <;> exact hf.elim⟩
  | .bool, _ => ⟨fun t fuel cs y ht h => by
      obtain ⟨b, rfl, _⟩ := DataW.trod_bool (hT t _ ht).und h
      exact ⟨b, rfl⟩, fun fs off cs hf => by cases fs <;> exact hf.elim⟩
  | .str, _ => ⟨fun t fuel cs y ht h => by
      obtain ⟨s, rfl, _, hs⟩ := DataW.trod_string (hT t _ ht).und h
      exact ⟨bytesD s, s, rfl, rfl, hs⟩, fun fs off cs hf => by cases fs <;> exact hf.elim⟩
  | .snil, _ => by
    have B : ∀ (fs : List Field) (off : Nat) (cs : List Value), TyUnd.FieldsOk T fs off .snil → cs.length = off + Ty.snil.size → ∃ x, Rep w (imAll w) .snil x (cs.drop off) := by
      intro fs off cs hf hl
      refine ⟨(), ?_⟩
      show cs.drop off = []
      exact List.drop_eq_nil_of_le (by simp [Ty.size] at hl; omega)
    refine ⟨fun t fuel cs y ht h => ?_, fun fs off cs hf hl _ => B fs off cs hf hl⟩
    obtain ⟨fs, hu, hf⟩ := (hT t _ ht).und
    obtain ⟨xs, n, _, _, hl, _, _⟩ := DataW.trod_struct hu h
    rw [cellsOf_ty (hT t _ ht)] at hl
    simpa using B _ 0 cs hf (by rw [hl]; simp)
  | .scons a r, hg => by
    simp only [argT?, Bool.and_eq_true] at hg
    have ia := (rep_trod hT a hg.1).1
    have ir := (rep_trod hT r hg.2).2
    have B : ∀ (fs : List Field) (off : Nat) (cs : List Value), TyUnd.FieldsOk T fs off (.scons a r) → cs.length = off + (Ty.scons a r).size → (∀ (i : Nat) (f : Field), fs[i]? = some f → ∃ n y, DataW.trod enc P w 0 spare held n f.type ((cs.drop f.offset).take (P.cellsOf f.type)) = some y) → ∃ x, Rep w (imAll w) (.scons a r) x (cs.drop off) := by
      intro fs off cs hf hl hy
      cases fs with
      | nil => exact hf.elim
      | cons f fs =>
        obtain ⟨h1, h2, _, h3⟩ := hf
        simp only [Ty.size] at hl
        obtain ⟨n, y, h4⟩ := hy 0 f rfl
        rw [cellsOf_ty (hT _ _ h1), h2] at h4
        obtain ⟨x1, r1⟩ := ia f.type n _ y h1 h4
        obtain ⟨x2, r2⟩ := ir fs (off + a.size) cs h3 (by omega) fun i g hg => hy (i + 1) g (by simpa using hg)
        refine ⟨(x1, x2), _, _, ?_, r1, r2⟩
        rw [← List.drop_drop]
        exact (List.take_append_drop _ _).symm
    refine ⟨fun t fuel cs y ht h => ?_, B⟩
    obtain ⟨fs, hu, hf⟩ := (hT t _ ht).und
    obtain ⟨xs, n, _, _, hl, hlen, hi⟩ := DataW.trod_struct hu h
    rw [cellsOf_ty (hT t _ ht)] at hl
    have := B fs.toList 0 cs hf (by rw [hl]; simp) fun i f hfi => by
      have h5 := hi i f (by simpa using hfi)
      have : i < xs.length := by
        rw [hlen]
        rcases Nat.lt_or_ge i fs.size with hlt | hge
        · exact hlt
        · rw [List.getElem?_eq_none (by simpa using hge)] at hfi; cases hfi
      rw [List.getElem?_eq_getElem this] at h5
      exact ⟨n, _, h5⟩
    simpa using this
  | .arr m a, hg => by
    have ia := (rep_trod hT a hg).1
    refine ⟨fun t fuel cs y ht h => ?_, fun fs off cs hf => by cases fs <;> exact hf.elim⟩
    obtain ⟨e, hu, he⟩ := (hT t _ ht).und
    obtain ⟨xs, n, _, _, hl, hlen, hi⟩ := DataW.trod_array hu h
    rw [cellsOf_ty (hT t _ ht)] at hl
    rw [cellsOf_ty (hT e _ he)] at hi
    let css := (List.range m).map fun i => (cs.drop (i * a.size)).take a.size
    have hcs : cs = css.flatten := by
      have key : ∀ (k : Nat) (l : List Value), l.length = k * a.size → l = ((List.range k).map fun i => (l.drop (i * a.size)).take a.size).flatten := by
        intro k
        induction k with
        | zero => intro l hl; simp at hl; simp [hl]
        | succ k ih =>
          intro l hl
          rw [List.range_succ, List.map_append, List.flatten_append]
          simp only [List.map_cons, List.map_nil, List.flatten_cons, List.flatten_nil, List.append_nil]
          rw [Nat.succ_mul] at hl
          have h1 := ih (l.take (k * a.size)) (by rw [List.length_take]; omega)
          have h2 : ((List.range k).map fun i => ((l.take (k * a.size)).drop (i * a.size)).take a.size) = (List.range k).map fun i => (l.drop (i * a.size)).take a.size := by
            apply List.map_congr_left
            intro i hi
            have hik := List.mem_range.1 hi
            have : i * a.size + a.size ≤ k * a.size := by rw [← Nat.succ_mul]; exact Nat.mul_le_mul_right _ hik
            rw [List.drop_take, List.take_take]
            congr 1
            omega
          rw [h2] at h1
          rw [← h1]
          have : (l.drop (k * a.size)).take a.size = l.drop (k * a.size) := List.take_of_length_le (by rw [List.length_drop]; omega)
          rw [this]
          exact (List.take_append_drop _ _).symm
      exact key m cs (by rw [hl]; rfl)
    obtain ⟨l, hl2⟩ := all2_of (R := fun (x : a.D) c => Rep w (imAll w) a x c) css fun i c hc => by
      have him : i < m := by
        rcases Nat.lt_or_ge i m with hlt | hge
        · exact hlt
        · rw [List.getElem?_eq_none (by simp [css]; exact hge)] at hc; cases hc
      have h5 := hi i him
      rw [List.getElem?_eq_getElem (by omega)] at h5
      have : c = (cs.drop (i * a.size)).take a.size := by
        simp only [css, List.getElem?_map, List.getElem?_range him, Option.map_some, Option.some.injEq] at hc
        exact hc.symm
      rw [this]
      exact ia e n _ _ he h5
    refine ⟨l, ?_, css, hcs, hl2⟩
    rw [hl2.length]; simp [css]
  | .slice a, hg => by
    simp only [argT?, Bool.and_eq_true] at hg
    have hpos := szPos_pos hg.1
    have ia := (rep_trod hT a hg.2).1
    refine ⟨fun t fuel cs y ht h => ?_, fun fs off cs hf => by cases fs <;> exact hf.elim⟩
    obtain ⟨e, i0, hu, he, _⟩ := (hT t _ ht).und
    rcases Go.Deep.open_slice hu h with ⟨rfl, _⟩ | ⟨ad, len, cap, m, n, D, Pl, rfl, _, hle, hmx, hm, _, hel⟩
    · exact ⟨[], none, 0, rfl, Nat.le_refl _, Nat.zero_le _, .inl rfl⟩
    · rw [cellsOf_ty (hT e _ he)] at hel
      have hlm : len ≤ m := by rw [hm]; split <;> omega
      let css := (List.range len).map fun i => (w.cells? 0 (ad.add (i * a.size)) a.size).getD []
      have each : ∀ i, i < len → ∃ c, w.cells? 0 (ad.add (i * a.size)) a.size = some c ∧ css[i]? = some c ∧ ∃ x, Rep w (imAll w) a x c := by
        intro i hi
        obtain ⟨c, h1, h2⟩ := hel i (by omega)
        exact ⟨c, h1, by simp [css, hi, h1], ia e n _ _ he h2⟩
      obtain ⟨l, hl2⟩ := all2_of (R := fun (x : a.D) c => Rep w (imAll w) a x c) css fun i c hc => by
        have hi : i < len := by
          rcases Nat.lt_or_ge i len with hlt | hge
          · exact hlt
          · rw [List.getElem?_eq_none (by simp [css]; exact hge)] at hc; cases hc
        obtain ⟨c', _, h2, h3⟩ := each i hi
        rw [hc] at h2; cases h2
        exact h3
      have hll : l.length = len := by rw [hl2.length]; simp [css]
      have hcl : ∀ c ∈ css, c.length = a.size := fun c hc => by obtain ⟨x, _, hx⟩ := hl2.mem_right c hc; exact hx.length
      refine ⟨l, some ad, cap, by rw [hll], by rw [hll]; exact hle, hmx, ?_⟩
      cases hl0 : l with
      | nil => exact .inl rfl
      | cons x0 l0 =>
        right
        have hlen : 0 < len := by rw [← hll, hl0]; simp
        -- the address is a row's
        have hspot : ad.spot = none := by
          obtain ⟨c, h1, _, _⟩ := each 0 hlen
          obtain ⟨h3, h4⟩ := cells_get h1
          have h5 := h4 0 hpos
          have : (ad.add (0 * a.size)).add 0 = ad := by simp [Addr.add]
          rw [this, List.getElem?_eq_getElem (by omega)] at h5
          cases hsp : ad.spot with
          | none => rfl
          | some k =>
            unfold World.cell? at h5
            split at h5
            · rw [hsp] at h5; cases h5
            · cases h5
        obtain ⟨b, o, sp⟩ := ad
        simp only at hspot
        subst hspot
        refine ⟨b, o, rfl, css, by rw [← hl0]; exact hl2, fun j v hj => ?_⟩
        obtain ⟨c, h1, h2⟩ := flatten_at hpos hcl j v hj
        have hjl : j / a.size < len := by
          rcases Nat.lt_or_ge (j / a.size) len with hlt | hge
          · exact hlt
          · rw [List.getElem?_eq_none (by simp [css]; exact hge)] at h1; cases h1
        obtain ⟨c', h3, h4, _⟩ := each _ hjl
        rw [h1] at h4; cases h4
        obtain ⟨h5, h6⟩ := cells_get h3
        have h7 := h6 (j % a.size) (Nat.mod_lt _ hpos)
        rw [h2] at h7
        have : ((⟨b, o, none⟩ : Addr).add (j / a.size * a.size)).add (j % a.size) = ⟨b, o + j, none⟩ := by
          rw [Go.Deep.add_add]
          have : j / a.size * a.size + j % a.size = j := by rw [Nat.mul_comm]; exact Nat.div_add_mod j a.size
          rw [this]
          unfold Addr.add
          split <;> simp_all
        rw [this] at h7
        exact ⟨h7, cell_lt h7⟩
  | .vec _ _, hg => by cases hg
  | .bld _ _, hg => by cases hg

/-- the value's shape -/
theorem val_shape {r : Reach} {base : Nat} {t : Nat} {τ : Ty} (ht : TyFact P T t τ) {v : Value} (h : Value.okWide P w r base t v) (hg : argT? τ = true) : v = valOf τ v.cells.toList := by
  have hu := ht.und
  cases τ with
  | int k => obtain ⟨n, rfl⟩ := okWide_int hu h; rfl
  | bool => obtain ⟨b, rfl⟩ := okWide_bool hu h; rfl
  | str => obtain ⟨s, rfl⟩ := okWide_string hu h; rfl
  | slice a =>
    obtain ⟨e, i, hu, _⟩ := hu
    obtain ⟨ad, l, c, rfl⟩ := okWide_slice hu h; rfl
  | snil =>
    obtain ⟨fs, hu, _⟩ := hu
    simp only [Value.okWide, hu] at h
    obtain ⟨cs, rfl, _⟩ := h
    simp [valOf, isAggT, Value.cells]
  | scons a b =>
    obtain ⟨fs, hu, _⟩ := hu
    simp only [Value.okWide, hu] at h
    obtain ⟨cs, rfl, _⟩ := h
    simp [valOf, isAggT, Value.cells]
  | arr n a =>
    obtain ⟨e, hu, _⟩ := hu
    simp only [Value.okWide, hu] at h
    obtain ⟨cs, rfl, _⟩ := h
    simp [valOf, isAggT, Value.cells]
  | vec _ _ => cases hg
  | bld _ _ => cases hg

/-- an argument -/
theorem arg_in (hT : TabOk P T) {r : Reach} {base : Nat} {t : Nat} {τ : Ty} (ht : T.ty t = some τ) (hg : argT? τ = true) {v : Value} {d : DataW H} {p : List MemPlace} (hv : Value.okWide P w r base t v) (h : DataW.Trod enc P w 0 spare held t v d p) :
    ∃ x : τ.D, RepV w (imAll w) τ x v ∧ OkD τ x := by
  obtain ⟨fuel, h⟩ := h
  obtain ⟨x, hx⟩ := (rep_trod hT τ hg).1 t fuel _ _ ht h
  exact ⟨x, ⟨_, hx, val_shape (hT t _ ht) hv hg⟩, ok_rep hx⟩
end

def valPs : List Ty → List PK
  | [] => []
  | τ :: r => .val τ :: valPs r

theorem spots_val : ∀ (τs : List Ty) (us : List Value), spots (valPs τs) us = [] ∧ spotsW (valPs τs) us = []
  | [], us => by cases us <;> exact ⟨rfl, rfl⟩
  | τ :: r, [] => ⟨rfl, rfl⟩
  | τ :: r, u :: us => spots_val r us

/-- a law that answers true -/
theorem law_calls {P : Program} {f : Nat} {fn : Func} {ps : List PK} {τs : List Ty} {Fx : (argT ps).D → Option (resT [RK.val .bool] (refT ps)).D} (hps : ps = valPs τs) (hok : ConOk P ⟨f, ps, [.val .bool], Fx, 0⟩) (hf : P.funcs[f]? = some fn) (hb : fn.body.isSome = true) (hname : (fn.name == "runtime.NumGoroutine") = false)
    {W : World} {us : List Value} {x : (argT ps).D} (hgl : GlobP P (imAll W) W) (hargs : ArgsR W (imAll W) ps x us) {z : (refT ps).D} (hlaw : Fx x = some (true, z)) : Calls P f us.toArray W fun e W' => e = .returned (.bool true) ∧ Below W.heap.size W W' := by
  have hne : ¬ fn.name = "runtime.NumGoroutine" := by simpa using hname
  obtain ⟨c, hc⟩ := Option.isSome_iff_exists.1 hb
  have hent : (callFunc f us.toArray).run P W = .ok (.enter f us.toArray) W := by simp [callFunc, hf, hc, hne]
  subst hps
  obtain ⟨s1, s2⟩ := spots_val τs us
  have h := (show ConOk0 P ⟨f, valPs τs, [.val .bool], Fx, 0⟩ from hok) (imAll W) W x (true, z) us hlaw hargs (by rw [s1]; exact List.Pairwise.nil) (fun b i h => h) hgl
  rcases h with ⟨_, h⟩ | ⟨v, w', h, _⟩
  · refine h.mono ?_
    rintro e W' ⟨vs, im', rfl, hk, _, _, hr, _⟩
    obtain ⟨v, vs', rfl, hv, rfl⟩ := hr
    refine ⟨?_, ?_⟩
    · have := dat_bool hv
      rw [this]; rfl
    · refine (hk.mono fun b i _ hm => ?_).below
      obtain ⟨sp, hsp, _⟩ := hm
      rw [s2] at hsp; cases hsp
  · rw [hent] at h; cases h

/-- and so the row -/
theorem law_post {P : Program} {H : Type} {enc : TypeId × Value → H} {f : Func} {s : ChangeSpec} {apart handsOn : Bool} {W W' : World} {args : Array Value} {ds gs : List (DataW H)} {before : List MemPlace} {tb : Nat}
    (hl : laidOutB P = true) (hrd : ∀ t ∈ f.params.toList, P.readableRec t = true ∧ t < P.types.size) (hvars : varsRowed P s.vars = true) (hres : f.resultTypes = #[tb]) (htb : P.underlying tb = some .bool)
    (hs : s.fn H (ds ++ gs) = { results := [.lit (.bool true)], args := ds, vars := gs }) (hW : DataW.Whole enc P f.params.toList s.vars apart W args.toList ds gs before) (hb : Below W.heap.size W W') :
    s.post enc P f apart true handsOn false W args (.bool true) W' := by
  have hlt := hW.lt
  have hW2 := hW
  obtain ⟨p, q, hA, hV, rfl, _, _⟩ := hW
  have hargs : ∀ (ts : List Nat) (vs : List Value) (ds : List (DataW H)) (p : List MemPlace), (∀ t ∈ ts, P.readableRec t = true ∧ t < P.types.size) → (∀ x ∈ p, x.block < W.heap.size) → DataW.TrodAll enc P W 0 (fun _ => true) true ts vs ds p →
      DataW.TrodAll enc P W' 0 (fun b => decide (b < W.heap.size)) true ts vs ds p := by
    intro ts
    induction ts with
    | nil => intro vs ds p _ _ h; obtain ⟨rfl, rfl, rfl⟩ := trodAll_nil h; exact trodAll_mk0
    | cons t ts ih =>
      intro vs ds p hr hp h
      obtain ⟨v, vs', d, ds', p1, p2, rfl, rfl, rfl, h1, h2⟩ := trodAll_cons h
      refine trodAll_cons_mk (Below.trod hl (hr t (by simp)).1 (hr t (by simp)).2 h1 hb fun x hx => hp x (by simp [hx])) (ih vs' ds' p2 (fun t ht => hr t (by simp [ht])) (fun x hx => hp x (by simp [hx])) h2)
  refine ⟨ds, gs, _, [], p, q, hW2, ?_, ?_, ?_, hb.frame _, fun h => by cases h⟩
  · rw [hs, hres]
    exact trodAll_mk1 (shut_bool htb true)
  · rw [hs]; exact hargs _ _ _ _ hrd (fun x hx => hlt x (by simp [hx])) hA
  · rw [hs]; exact hb.trodVars hl hvars hV
end Go.SX

-- SX: RowS
namespace Go.SX
open Go.RowKit Go.ChangeShapes Go.WideShapes Go.ChangeAt Go.Proofs
set_option linter.unusedVariables false

theorem glob_none {P : Program} {im : Nat → Nat → Prop} {w : World} (h : P.globals.findIdx? (·.name == "internal/bytealg.MaxLen") = none) : GlobP P im w := fun g hg => by
  rw [h] at hg; cases hg
theorem glob_shaped {P : Program} {W : World} {g : Nat} {t : TypeId} (hsh : W.ShapedOpen P) (hi : P.globals.findIdx? (·.name == "internal/bytealg.MaxLen") = some g) (hg : g < P.globals.size)
    (h0 : ((begin P (fun _ _ => 0) default).world.heap[g]?).bind Obj.row? = some (#[.int .i64 0], t)) (hb : P.buildable t = true) (hc : P.cellTypes P.depth t = some [t]) (hu : P.underlying t = some (.int .i64)) : GlobP P (imAll W) W := fun g' hg' => by
  rw [hi] at hg'
  cases hg'
  obtain ⟨m, hm⟩ := cell_of_shapedOpen_int hsh hg h0 rfl hb hc hu
  refine ⟨?_, m, hm⟩
  unfold World.cell? at hm
  cases hh : W.heap[g]? with
  | none => simp only [hh] at hm; cases hm
  | some o => exact heap_lt hh

theorem returnsInHanded_and_shaped {H : Type} {enc : TypeId × Value → H} {a : Assume} {C : Checked} {os : Os} {f : FuncId} {fn : Func} {s : ChangeSpec} {conds : List PathCond} {apart fresh handsOn again : Bool} {X : World → Array Value → Prop}
    (hX : ∀ (w w' : World) (args : Array Value), w.heap = w'.heap → X w args → X w' args)
    (own : ownKnob C.prog.godebug = none) (started : os.Started) (noInit : C.prog.inits.idxOf? f = none) (hfn : C.prog.funcs[f]? = some fn)
    (witness : ∃ (w : World) (tape : Tape) (i : Input), w.os = os ∧ (w.forCall tape i).Shaped C.prog ∧ i.vars = [] ∧ Input.okWide C.prog (w.forCall tape i) .any w.heap.size f i ∧
      ((s.pre enc C.prog fn conds apart (w.forCall tape i).memory i.args ∧ X (w.forCall tape i).memory i.args) ∧ sizedMet enc C.prog fn (OpenSpec.ofChange s) apart (w.forCall tape i).memory i.args) ∧ a.holds C.prog (lone (Frame.enter C.prog f i.args .normal) [] (w.forCall tape i)))
    (contract : ∀ (W : World) (base : Nat) (args : Array Value) (ds gs : List (DataW H)) (before : List MemPlace),
      (∀ (j : Nat) t v, fn.params[j]? = some t → args[j]? = some v → Value.okWide C.prog W .any base t v) →
      DataW.Whole enc C.prog fn.params.toList s.vars apart W args.toList ds gs before → X W args → W.ShapedOpen C.prog →
      Calls C.prog f args W fun e W' => ∃ v, e = .returned v ∧ s.post enc C.prog fn apart fresh handsOn again W args v W') :
    ReturnsInHanded a C os f .any (fun w args => (s.pre enc C.prog fn conds apart w args ∧ X w args) ∧ sizedMet enc C.prog fn (OpenSpec.ofChange s) apart w args) (s.post enc C.prog fn apart fresh handsOn again) := by
  refine returnsInHanded_of_calls own started noInit witness ?_
  intro w tape i _ hsh _ hok hpre hholds
  obtain ⟨_, _, _, fn', hfn', _, _, _, _, hval⟩ := hok
  have e : fn' = fn := Option.some.inj (hfn'.symm.trans hfn)
  subst e
  obtain ⟨⟨⟨ds, gs, before, hw, hc⟩, hx⟩, hz⟩ := hpre
  have hw' := DataW.Whole.of_heap (w' := w.forCall tape i) (by rfl) hw
  refine (contract (w.forCall tape i) w.heap.size i.args ds gs before hval hw' (hX _ _ _ (by rfl) hx) hsh).mono fun e W' ⟨v, he, hp⟩ => ?_
  subst he
  exact ChangeSpec.post_blind hp
end Go.SX

-- SX: Lib
namespace Go.SX
open Go.RowKit Go.Proofs Go.Shelf
set_option linter.unusedVariables false
set_option linter.unusedSimpArgs false

theorem below_keep {mu : Nat → Nat → Prop} {w w' : World} (h : Below w.heap.size w w') : Keep mu w w' :=
  ⟨h.os, h.tape, h.output, h.size, fun b hb _ => h.block b hb, fun b c e fz hc => ⟨c, by rw [h.block b (heap_lt hc)]; exact hc, rfl, fun _ _ => rfl⟩⟩

theorem refs_val {w : World} {im : Nat → Nat → Prop} : ∀ (τs : List Ty) (us : List Value) (r : (refT (valPs τs)).D), RefsR w im (valPs τs) us r
  | [], us, r => by cases us <;> trivial
  | τ :: τs, [], r => trivial
  | τ :: τs, u :: us, r => refs_val τs us r

/-- a function of plain data, with one result -/
theorem con_pure {P : Program} {f : Nat} {τs : List Ty} {σ : Ty} {Fx : (argT (valPs τs)).D → Option (resT [RK.val σ] (refT (valPs τs))).D}
    (h : ∀ (im0 : Nat → Nat → Prop) (w : World) (x : (argT (valPs τs)).D) (r : (resT [RK.val σ] (refT (valPs τs))).D) (us : List Value), Fx x = some r → ArgsR w im0 (valPs τs) x us → (∀ b i, im0 b i → b < w.heap.size) → GlobP P im0 w →
      Enters P f us.toArray w fun e w' => ∃ v, e = .returned v ∧ Below w.heap.size w w' ∧ RepV w' im0 σ r.1 v) : ConOk P ⟨f, valPs τs, [.val σ], Fx, 0⟩ := by
  refine (show ConOk0 P _ from ?_)
  intro im0 w x r us hF hA _ him hgl
  have key : ∀ e w', (∃ v, e = Ending.returned v ∧ Below w.heap.size w w' ∧ RepV w' im0 σ r.1 v) → ∃ (vs : List Value) (im' : Nat → Nat → Prop), e = .returned (retV vs) ∧ Keep (mus (valPs τs) us) w w' ∧ (∀ b i, im0 b i → im' b i) ∧
      (∀ b i, im' b i → b < w'.heap.size ∧ (b < w.heap.size → im0 b i)) ∧ ResR w' im' w.heap.size [RK.val σ] (refT (valPs τs)) r vs ∧ RefsR w' im' (valPs τs) us (restQ [RK.val σ] (refT (valPs τs)) r) := by
    rintro e w' ⟨v, rfl, hb, hr⟩
    exact ⟨[v], im0, rfl, below_keep hb, fun _ _ h => h, fun b i hi => ⟨Nat.lt_of_lt_of_le (him b i hi) hb.size, fun _ => hi⟩, ⟨v, [], rfl, hr, rfl⟩, refs_val _ _ _⟩
  rcases h im0 w x r us hF hA him hgl with ⟨h1, h2⟩ | ⟨v, w', h1, h2⟩
  · exact .inl ⟨h1, h2.mono key⟩
  · exact .inr ⟨v, w', h1, key _ _ h2⟩

/-- how often a byte stands in a string -/
def cntI : List Int → Int → Int
  | [], _ => 0
  | b :: l, c => bif b == c then cntI l c + 1 else cntI l c
/-- where it stands first -/
def ixI : List Int → Int → Int
  | [], _ => -1
  | b :: l, c => bif b == c then 0 else bif ixI l c == -1 then -1 else ixI l c + 1
/-- strings with another one between them -/
def joinT (sep : List Int) : List (List Int) → List Int
  | [] => []
  | x :: l => sep ++ x ++ joinT sep l
def joinI : List (List Int) → List Int → List Int
  | [], _ => []
  | x :: l, sep => x ++ joinT sep l

theorem byte_eq {b : UInt8} {c : Int} (h : IntKind.u8.wrap c = c) : ((b.toNat : Int) == c) = (b == c.toNat.toUInt8) := by
  have hc : 0 ≤ c ∧ c < 256 := by
    have h' : (if (false && decide (c % 256 ≥ 128)) = true then c % 256 - 256 else c % 256) = c := h
    simp at h'
    omega
  obtain ⟨n, rfl⟩ : ∃ n : Nat, c = n := ⟨c.toNat, by omega⟩
  have hn : n < 256 := by omega
  rw [Bool.eq_iff_iff, beq_iff_eq, beq_iff_eq]
  constructor
  · intro e
    have e' : b.toNat = n := by exact_mod_cast e
    apply UInt8.toNat_inj.1
    simp [e', Nat.mod_eq_of_lt hn]
  · intro e
    rw [e]
    simp [Nat.mod_eq_of_lt hn]

theorem cnt_eq {c : Int} (h : IntKind.u8.wrap c = c) : ∀ (l : List UInt8), cntI (l.map fun b => (b.toNat : Int)) c = Lib.countByte l c.toNat.toUInt8
  | [] => rfl
  | b :: l => by
    have ih := cnt_eq h l
    simp only [List.map_cons, cntI]
    rw [byte_eq h, ih]
    unfold Lib.countByte
    rw [List.count_cons]
    cases b == c.toNat.toUInt8 <;> simp
theorem ix_eq {c : Int} (h : IntKind.u8.wrap c = c) : ∀ (l : List UInt8), ixI (l.map fun b => (b.toNat : Int)) c = Lib.indexByte l c.toNat.toUInt8
  | [] => rfl
  | b :: l => by
    have ih := ix_eq h l
    simp only [List.map_cons, ixI]
    rw [byte_eq h, ih]
    rw [show Lib.indexByte (b :: l) c.toNat.toUInt8 = if b == c.toNat.toUInt8 then 0 else if Lib.indexByte l c.toNat.toUInt8 == -1 then -1 else Lib.indexByte l c.toNat.toUInt8 + 1 from rfl]
    generalize Lib.indexByte l c.toNat.toUInt8 = k
    cases b == c.toNat.toUInt8 <;> cases k == -1 <;> rfl

theorem cnt_range : ∀ (l : List Int) (c : Int), 0 ≤ cntI l c ∧ cntI l c ≤ l.length
  | [], c => by simp [cntI]
  | b :: l, c => by
    have := cnt_range l c
    unfold cntI
    cases b == c <;> simp <;> omega
theorem ix_range : ∀ (l : List Int) (c : Int), -1 ≤ ixI l c ∧ ixI l c ≤ l.length
  | [], c => by simp [ixI]
  | b :: l, c => by
    have := ix_range l c
    unfold ixI
    cases b == c <;> cases ixI l c == -1 <;> simp <;> omega

abbrev ps_sb : List PK := [.val .str, .val (.int .u8)]
def cntF : (argT ps_sb).D → Option (resT [RK.val (.int .i64)] (refT ps_sb)).D
  | (s, c, _) => some (cntI s c, ())
def ixF : (argT ps_sb).D → Option (resT [RK.val (.int .i64)] (refT ps_sb)).D
  | (s, c, _) => some (ixI s c, ())

theorem rep_i64 {w : World} {im : Nat → Nat → Prop} {n : Int} (h : -1 ≤ n) (h2 : n ≤ maxLen) : RepV w im (.int .i64) n (.int .i64 n) := by
  refine ⟨[.int .i64 n], ⟨rfl, ?_⟩, rfl⟩
  rw [wrap_range]
  unfold maxLen at h2
  have h3 : IntKind.i64.min = -9223372036854775808 := by decide
  have h4 : IntKind.i64.max = 9223372036854775807 := by decide
  rw [h3, h4]; omega

theorem ok_count {P : Program} {f : Nat} {fn : Func} (hf : P.funcs[f]? = some fn) (h1 : (fn.name == "runtime.NumGoroutine") = false) (h2 : fn.body.isNone = true) (h3 : Extern.findNext fn = none) (h4 : Extern.find fn = some Extern.BytealgCount.count) : ConOk P ⟨f, ps_sb, [.val (.int .i64)], cntF, 0⟩ := by
  refine con_pure (τs := [.str, .int .u8]) ?_
  rintro im0 w ⟨s, c, z⟩ ⟨r, z'⟩ us hF ⟨u, us', rfl, hu, u2, us'', rfl, hu2, rfl⟩ him hgl
  obtain ⟨rfl⟩ : cntI s c = r := congrArg Prod.fst (Option.some.inj hF)
  obtain ⟨cs, ⟨b, rfl, rfl, hb⟩, rfl⟩ := hu
  obtain ⟨cs2, ⟨rfl, hc⟩, rfl⟩ := hu2
  refine .inr ⟨.int .i64 (Lib.countByte b.data.toList c.toNat.toUInt8), w, ?_, _, rfl, Below.refl _ _, ?_⟩
  · rw [run_callFunc_extern hf h1 h2 h3 h4]
    show ((Extern.BytealgCount.count #[.string b, .int .u8 c]).run P w).andThen _ = _
    rw [Lib.run_countString]
    rfl
  · have e := cnt_eq hc b.data.toList
    have hr := cnt_range (bytesD b) c
    show RepV w im0 (.int .i64) (cntI (bytesD b) c) _
    rw [← e]
    refine rep_i64 (by have := hr.1; omega) (Int.le_trans hr.2 ?_)
    rw [bytesD_len]; exact_mod_cast hb

theorem ok_index {P : Program} {f : Nat} {fn : Func} (hf : P.funcs[f]? = some fn) (h1 : (fn.name == "runtime.NumGoroutine") = false) (h2 : fn.body.isNone = true) (h3 : Extern.findNext fn = none) (h4 : Extern.find fn = some Extern.BytealgIndexByte.indexByte) : ConOk P ⟨f, ps_sb, [.val (.int .i64)], ixF, 0⟩ := by
  refine con_pure (τs := [.str, .int .u8]) ?_
  rintro im0 w ⟨s, c, z⟩ ⟨r, z'⟩ us hF ⟨u, us', rfl, hu, u2, us'', rfl, hu2, rfl⟩ him hgl
  obtain ⟨rfl⟩ : ixI s c = r := congrArg Prod.fst (Option.some.inj hF)
  obtain ⟨cs, ⟨b, rfl, rfl, hb⟩, rfl⟩ := hu
  obtain ⟨cs2, ⟨rfl, hc⟩, rfl⟩ := hu2
  refine .inr ⟨.int .i64 (Lib.indexByte b.data.toList c.toNat.toUInt8), w, ?_, _, rfl, Below.refl _ _, ?_⟩
  · rw [run_callFunc_extern hf h1 h2 h3 h4]
    show ((Extern.BytealgIndexByte.indexByte #[.string b, .int .u8 c]).run P w).andThen _ = _
    rw [Lib.run_indexByteString]
    rfl
  · have e := ix_eq hc b.data.toList
    have hr := ix_range (bytesD b) c
    show RepV w im0 (.int .i64) (ixI (bytesD b) c) _
    rw [← e]
    refine rep_i64 hr.1 (Int.le_trans hr.2 ?_)
    rw [bytesD_len]; exact_mod_cast hb

abbrev ps_join : List PK := [.val (.slice .str), .val .str]
def joinF : (argT ps_join).D → Option (resT [RK.val .str] (refT ps_join)).D
  | (l, s, _) => bif decide ((joinI l s).length < 1099511627776) && decide (List.length (α := List Int) l < 1099511627776) then some (joinI l s, ()) else none

theorem join_eq (sep : ByteArray) : ∀ (xs : List ByteArray), joinI (xs.map bytesD) (bytesD sep) = (Lib.join (xs.map (·.data.toList)) sep.data.toList).map fun b => (b.toNat : Int)
  | [] => rfl
  | x :: xs => by
    simp only [List.map_cons]
    rw [Lib.join_cons]
    simp only [joinI, List.map_append]
    congr 1
    induction xs with
    | nil => rfl
    | cons y xs ih =>
      simp only [List.map_cons, joinT, Lib.joinTail, List.flatten_cons, List.map_append] at ih ⊢
      rw [ih]
      rfl

theorem strs_of {w : World} {im : Nat → Nat → Prop} : ∀ (l : List (List Int)) (css : List (List Value)), All2 (Rep w im .str) l css → ∃ xs : List ByteArray, l = xs.map bytesD ∧ css = xs.map (fun x => [.string x]) ∧ ∀ x ∈ xs, x.size ≤ maxLen
  | [], [], _ => ⟨[], rfl, rfl, fun x hx => by cases hx⟩
  | a :: l, c :: css, h => by
    obtain ⟨⟨b, rfl, rfl, hb⟩, h2⟩ := h
    obtain ⟨xs, rfl, rfl, h3⟩ := strs_of l css h2
    exact ⟨b :: xs, rfl, rfl, fun x hx => by
      rcases List.mem_cons.1 hx with rfl | hx
      · exact hb
      · exact h3 x hx⟩

theorem flat_str : ∀ (xs : List ByteArray), (xs.map fun x => [Value.string x]).flatten = xs.map Value.string
  | [] => rfl
  | y :: ys => by simp [flat_str ys]

theorem bytesD_mk (l : List UInt8) : bytesD ⟨l.toArray⟩ = l.map fun b => (b.toNat : Int) := by simp [bytesD]

theorem ok_join {P : Program} {ρ : Ren} (L : Lays.n156 P ρ) (X : Builder.Extra P ρ) : ConOk P ⟨ρ.f 156, ps_join, [.val .str], joinF, 0⟩ := by
  refine con_pure (τs := [.slice .str, .str]) ?_
  rintro im0 w ⟨l, s, z⟩ ⟨r, z'⟩ us hF ⟨u, us', rfl, hu, u2, us'', rfl, hu2, rfl⟩ him hgl
  have hent : ∀ args w, (callFunc (ρ.f 156) args).run P w = .ok (.enter (ρ.f 156) args) w := enters_of L.f156 (by kernel_rfl) rfl
  have hF' : (bif decide ((joinI l s).length < 1099511627776) && decide (List.length (α := List Int) l < 1099511627776) then some (joinI l s, ()) else none) = some (r, z') := hF
  cases hg : (decide ((joinI l s).length < 1099511627776) && decide (List.length (α := List Int) l < 1099511627776)) with
  | false => rw [hg] at hF'; cases hF'
  | true =>
    rw [hg] at hF'
    obtain ⟨rfl⟩ : joinI l s = r := congrArg Prod.fst (Option.some.inj hF')
    simp only [Bool.and_eq_true, decide_eq_true_eq] at hg
    obtain ⟨cs2, ⟨sep, rfl, rfl, hs⟩, rfl⟩ := hu2
    obtain ⟨cs, ⟨a, cap, rfl, hle, hmx, hl⟩, rfl⟩ := hu
    have fin : ∀ (xs : List ByteArray), l = xs.map bytesD → (Calls P (ρ.f 156) #[.slice a (List.length (α := List Int) l) cap, .string sep] w fun e w' => e = .returned (.string ⟨(Lib.join (xs.map (·.data.toList)) sep.data.toList).toArray⟩) ∧ Below w.heap.size w w') →
        Enters P (ρ.f 156) [Value.slice a (List.length (α := List Int) l) cap, Value.string sep].toArray w fun e w' => ∃ v, e = .returned v ∧ Below w.heap.size w w' ∧ RepV w' im0 .str (joinI l (bytesD sep)) v := by
      intro xs hx hc
      refine .inl ⟨hent _ _, hc.mono ?_⟩
      rintro e w' ⟨rfl, hb⟩
      refine ⟨_, rfl, hb, [.string _], ⟨_, rfl, ?_, ?_⟩, rfl⟩
      · rw [bytesD_mk, hx, join_eq]
      · have h1 := hg.1
        rw [hx, join_eq, List.length_map] at h1
        show (Lib.join (xs.map (·.data.toList)) sep.data.toList).toArray.size ≤ maxLen
        rw [List.size_toArray]
        unfold maxLen; omega
    rcases hl with rfl | ⟨b, o, rfl, css, h1, h2⟩
    · refine fin [] rfl ((Any.strings_Join_none L X a cap sep w).mono ?_)
      rintro e w' ⟨rfl, rfl⟩
      exact ⟨rfl, Below.refl _ _⟩
    · obtain ⟨xs, rfl, rfl, hxs⟩ := strs_of l css h1
      have e1 : List.length (α := List Int) (xs.map bytesD) = xs.length := List.length_map _
      have hcl : ∀ (j : Nat) x, xs[j]? = some x → w.cell? ⟨b, o + j, none⟩ = some (.string x) ∧ im0 b (o + j) := by
        intro j x hx
        refine h2 j _ ?_
        have e2 := flat_str xs
        rw [e2]
        simp [hx]
      have hfin := fin xs rfl
      rw [e1] at hfin ⊢
      cases hx0 : xs with
      | nil =>
        subst hx0
        refine hfin ((Any.strings_Join_none L X _ cap sep w).mono ?_)
        rintro e w' ⟨rfl, rfl⟩
        exact ⟨rfl, Below.refl _ _⟩
      | cons x0 xs0 =>
        rw [← hx0]
        refine hfin (Any.strings_Join L X b o cap xs sep w (fun j x hx => (hcl j x hx).1) (him b o (by have := (hcl 0 x0 (by rw [hx0]; rfl)).2; simpa using this)) (by rw [e1] at hg; omega) (by rw [← e1]; exact hle) ?_)
        have h3 := hg.1
        rw [join_eq, List.length_map] at h3
        omega
end Go.SX

-- SX: Lib2
namespace Go.SX
open Go.RowKit Go.Proofs Go.Shelf
set_option linter.unusedVariables false
set_option linter.unusedSimpArgs false

def repN (l : List Int) : Nat → List Int
  | 0 => []
  | n + 1 => l ++ repN l n
abbrev ps_rep : List PK := [.val .str, .val (.int .i64)]
def repF : (argT ps_rep).D → Option (resT [RK.val .str] (refT ps_rep)).D
  | (s, n, _) => bif decide (0 ≤ n) && decide (n < 1099511627776) && decide ((List.length (α := Int) s : Int) * n < 1099511627776) then some (repN s n.toNat, ()) else none

theorem rep_eq (s : ByteArray) : ∀ n : Nat, repN (bytesD s) n = (Lib.repeatL s.data.toList n).map fun b => (b.toNat : Int)
  | 0 => by simp [repN, Lib.repeatL]
  | n + 1 => by
    simp only [repN, rep_eq s n]
    rw [show Lib.repeatL s.data.toList (n + 1) = s.data.toList ++ Lib.repeatL s.data.toList n from by simp [Lib.repeatL]]
    rw [List.map_append]
    rfl
theorem repN_len (l : List Int) : ∀ n, (repN l n).length = l.length * n
  | 0 => by simp [repN]
  | n + 1 => by simp [repN, repN_len l n, Nat.mul_add]; omega

theorem ok_repeat {P : Program} {ρ : Ren} (L : Lays.n105 P ρ) (X : Builder.Extra P ρ) : ConOk P ⟨ρ.f 105, ps_rep, [.val .str], repF, 0⟩ := by
  refine con_pure (τs := [.str, .int .i64]) ?_
  rintro im0 w ⟨l, c, z⟩ ⟨r, z'⟩ us hF ⟨u, us', rfl, hu, u2, us'', rfl, hu2, rfl⟩ him hgl
  have hent : ∀ args w, (callFunc (ρ.f 105) args).run P w = .ok (.enter (ρ.f 105) args) w := enters_of L.f105 (by kernel_rfl) rfl
  have hF' : (bif decide (0 ≤ c) && decide (c < 1099511627776) && decide ((List.length (α := Int) l : Int) * c < 1099511627776) then some (repN l c.toNat, ()) else none) = some (r, z') := hF
  cases hg : (decide (0 ≤ c) && decide (c < 1099511627776) && decide ((List.length (α := Int) l : Int) * c < 1099511627776)) with
  | false => rw [hg] at hF'; cases hF'
  | true =>
    rw [hg] at hF'
    obtain ⟨rfl⟩ : repN l c.toNat = r := congrArg Prod.fst (Option.some.inj hF')
    simp only [Bool.and_eq_true, decide_eq_true_eq] at hg
    obtain ⟨cs2, ⟨rfl, hc⟩, rfl⟩ := hu2
    obtain ⟨cs, ⟨s, rfl, rfl, hs⟩, rfl⟩ := hu
    obtain ⟨⟨h0, h1⟩, h2⟩ := hg
    have h0 : (0 : Int) ≤ (c : Int) := h0
    have h1 : (c : Int) < 1099511627776 := h1
    obtain ⟨n, rfl⟩ : ∃ n : Nat, c = (n : Int) := ⟨Int.toNat c, (Int.toNat_of_nonneg h0).symm⟩
    have h1' : n < 1099511627776 := by
      have h1 : ((n : Nat) : Int) < 1099511627776 := h1
      omega
    have hl : List.length (α := Int) (bytesD s) = s.size := bytesD_len s
    have h2' : s.size * n < 1099511627776 := by
      have h3 : ((List.length (α := Int) (bytesD s) : Nat) : Int) * (n : Int) < 1099511627776 := h2
      rw [hl, ← Int.natCast_mul] at h3
      omega
    clear h0 h1 h2
    have fin : (Calls P (ρ.f 105) #[.string s, .int .i64 n] w fun e w' => e = .returned (.string ⟨(Lib.repeatL s.data.toList n).toArray⟩) ∧ Below w.heap.size w w') →
        Enters P (ρ.f 105) [Value.string s, Value.int .i64 n].toArray w fun e w' => ∃ v, e = .returned v ∧ Below w.heap.size w w' ∧ RepV w' im0 .str (repN (bytesD s) n) v := by
      intro hcall
      refine .inl ⟨hent _ _, hcall.mono ?_⟩
      rintro e w' ⟨rfl, hb⟩
      refine ⟨_, rfl, hb, [.string _], ⟨_, rfl, ?_, ?_⟩, rfl⟩
      · rw [bytesD_mk, rep_eq]
      · have h4 := repN_len (bytesD s) n
        rw [rep_eq, List.length_map, hl] at h4
        show (Lib.repeatL s.data.toList n).toArray.size ≤ maxLen
        rw [List.size_toArray, h4]
        unfold maxLen; omega
    refine fin ?_
    by_cases hn0 : n = 0
    · subst hn0
      refine (Any.strings_Repeat_zero L s w).mono ?_
      rintro e w' ⟨rfl, rfl⟩
      exact ⟨by simp [Lib.repeatL], Below.refl _ _⟩
    · by_cases hn1 : n = 1
      · subst hn1
        refine (Any.strings_Repeat_one L s w).mono ?_
        rintro e w' ⟨rfl, rfl⟩
        exact ⟨by simp [Lib.repeatL], Below.refl _ _⟩
      · by_cases hz : s.size = 0
        · refine (Any.strings_Repeat_empty L s n w (by omega) (by omega) hz).mono ?_
          rintro e w' ⟨rfl, rfl⟩
          refine ⟨?_, Below.refl _ _⟩
          have h4 := repN_len (bytesD s) n
          rw [rep_eq, List.length_map, hl, hz, Nat.zero_mul] at h4
          rw [List.eq_nil_of_length_eq_zero h4]
        · exact Any.strings_Repeat_main L X s n w (by omega) (by omega) (by omega) (by omega)
end Go.SX
