/- 'spinetlaw17.ListsTexts' ANSWERS TRUE WHATEVER THE INPUT, AND LEAVES ITS INPUT AS IT WAS; the card: its listed package-level variables are tied to the program's text. No further condition. -/
import Derived.Test.YtamhndcofojppaaDoorCards
import Derived.Test.YtamhndcofojppaaDoorTie
import Derived.Test.YtamhndcofojppaaDoorSxLaw2
import Derived.Test.YtamhndcofojppaaDoorSxK3
import Derived.ProofKit
import Derived.Lay
import Derived.LaidLaws
import Derived.SevenTiedAt
namespace Go.Proofs.YtamhndcofojppaaDoor
open Go.ChangeShapes Go.WideShapes Go.ChangeAt Go.RowKit Go.SX

theorem Tryd.own : ownKnob Tryd.prog.godebug = none := by kernel_rfl
theorem Tryd.laidOut : laidOutB Tryd.prog = true := by kernel_rfl
abbrev laid3 := Rows.listsTextsRow.laid

set_option maxRecDepth 100000 in
theorem listsTexts_lifted (os : Os) (started : os.Started) (H : Type) (enc : TypeId × Value → H) :
    ReturnsInHanded {} Tryd.checked os 3 .any (fun w args => (Rows.listsTextsSpec.pre enc Tryd.prog Tryd.f3 Rows.listsTextsRow.domain false w args ∧ laidMetH Tryd.prog laid3 w) ∧ sizedMet enc Tryd.prog Tryd.f3 (OpenSpec.ofChange Rows.listsTextsSpec) false w args)
      (Rows.listsTextsSpec.post enc Tryd.prog Tryd.f3 false true false false) := by
  refine returnsInHanded_of_change_and (C := Tryd.checked) (X := fun w _ => laidMetH Tryd.prog laid3 w) (fun _ _ _ hh h => h.of_heap hh) Tryd.own started (by kernel_rfl) Tryd.func3
    (ChangeSpec.witness_shaped (enc := enc) (C := Tryd.checked) (os := os) (X := fun w _ => laidMetH Tryd.prog laid3 w) false (World.laidAll Tryd.prog os laid3) #[.int .u8 0, .int .i64 0] 8 (World.laidAll_os _ _ _)
      (World.shaped_of_ZipB (by kernel_rfl) (by kernel_rfl)) (by kernel_rfl) (by kernel_rfl) (by kernel_rfl)
      (by rw [MakeChecks.laidMetH_plain _ _ _ (by kernel_rfl)]; exact laidMet_laidAll _ (by kernel_rfl) (by kernel_rfl))) ?_
  intro W base args ds gs before hval0 hW _ _ hL _
  have hval : ∀ (j : Nat) t v, Tryd.f3.params[j]? = some t → args[j]? = some v → Value.okWide Tryd.prog W .any base t v := hval0
  have hW' := hW
  obtain ⟨p, q, hA0, hV, rfl, hfz, hnd⟩ := hW
  have hA : DataW.TrodAll enc Tryd.prog W 0 (fun _ => true) true Tryd.f3.params.toList args.toList ds p := hA0
  rw [Tryd.params3] at hA hval
  obtain ⟨v0, vs0, d0, ds0, p0, p1, hargs, rfl, rfl, h0, hA1⟩ := trodAll_cons hA
  obtain ⟨v1, vs1, d1, ds1, p2, p3, rfl, rfl, rfl, h1, hA2⟩ := trodAll_cons hA1
  obtain ⟨rfl, rfl, rfl⟩ := trodAll_nil hA2
  obtain ⟨rfl, rfl⟩ := trodVars_none hV
  obtain ⟨a⟩ := args
  simp only at hargs
  subst hargs
  obtain ⟨x, hx, hok⟩ := arg_in (T := SX.W.T) (tab_ok SX.W.tab) (t := 5) (τ := .int .u8) rfl rfl (hval 0 5 v0 rfl rfl) h0
  obtain ⟨y, hy, hok2⟩ := arg_in (T := SX.W.T) (tab_ok SX.W.tab) (t := 3) (τ := .int .i64) rfl rfl (hval 1 3 v1 rfl rfl) h1
  have hcall := law_calls (us := [v0, v1]) (x := (x, y, ())) (z := ()) (τs := [.int .u8, .int .i64]) rfl SX.W.ok3 Tryd.func3 (by kernel_rfl) (by kernel_rfl) ⟨v0, [v1], rfl, hx, v1, [], rfl, hy, rfl⟩ (SX.W.F3_true x y hok)
  refine hcall.mono fun e W' ⟨he, hb⟩ => ?_
  exact ⟨_, he, law_post (tb := 4) Tryd.laidOut (by rw [Tryd.params3]; decide +kernel) (by kernel_rfl) (by kernel_rfl) (by kernel_rfl) rfl hW' hb⟩

theorem listsTexts_holds : Rows.ListsTextsSaid :=
  OpenClaim.holds_of_wide 3 Tryd.f3 rfl rfl rfl rfl rfl rfl rfl ⟨rfl, rfl, rfl, rfl, rfl⟩ rfl rfl rfl rfl rfl (by kernel_rfl) Tryd.func3 (by kernel_rfl)
    (of_decide_eq_true (by kernel_rfl)) (by unfold Func.isWrapper; first | (rw [if_pos (by decide +kernel)]; kernel_rfl) | (rw [if_neg (by decide +kernel)]; exact ⟨rfl, rfl⟩))
    (fun os started H enc _ => listsTexts_lifted os started H enc)

theorem listsTexts_card : Rows.ListsTextsCardSaid :=
  Claim7.holds_tied_plain_at .later [] [.data, .pinned] true (true, "81372923e2a54450a0bc8485ed0bece4f4afe2d317501aa54b92aeda70ae88e9") false listsTexts_holds (fun _ h => by cases h) (by kernel_rfl) (fun _ h => by cases h) listsTexts_row_tie rfl ⟨rfl, rfl⟩ (by kernel_rfl) rfl
    (fun f fn hf hfn => by
      obtain rfl : f = 3 := Option.some.inj ((show Tryd.prog.funcNamed "spinet/spinetlaw17.ListsTexts" = some 3 by kernel_rfl).symm.trans hf) |>.symm
      obtain rfl : fn = Tryd.f3 := (Option.some.inj (Tryd.func3.symm.trans hfn)).symm
      exact ⟨by kernel_rfl, fun j t ht => by
        rw [Tryd.params3] at ht
        have hm : t ∈ [5, 3] := by simpa using Array.mem_of_getElem? ht
        exact (show ∀ t ∈ [5, 3], Tryd.prog.wantsStandIn t = false by decide +kernel) t hm⟩)
    (by kernel_rfl)

end Go.Proofs.YtamhndcofojppaaDoor
