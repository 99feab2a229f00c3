/- 'spinetlaw31.PinsTexts' ANSWERS TRUE WHATEVER THE INPUT, AND LEAVES ITS INPUT AS IT WAS; the card: its listed package-level variables are tied to the program's text. No further condition. -/
import Derived.Test.YtmblgpbcclpgjaaDoorCards
import Derived.Test.YtmblgpbcclpgjaaDoorTie
import Derived.Test.YtmblgpbcclpgjaaDoorSxPinsC
import Derived.Test.YtmblgpbcclpgjaaDoorSxK3
import Derived.ProofKit
import Derived.Lay
import Derived.LaidLaws
import Derived.SevenTiedAt
namespace Go.Proofs.YtmblgpbcclpgjaaDoor
open Go.ChangeShapes Go.WideShapes Go.ChangeAt Go.RowKit Go.SX

theorem Tryd.own : ownKnob Tryd.prog.godebug = none := by kernel_rfl
theorem Tryd.laidOut : laidOutB Tryd.prog = true := by kernel_rfl
set_option maxRecDepth 100000 in
theorem pinsTexts_lifted (os : Os) (started : os.Started) (H : Type) (enc : TypeId × Value → H) :
    ReturnsInHanded {} Tryd.checked os 5 .any (fun w args => (Rows.pinsTextsSpec.pre enc Tryd.prog Tryd.f5 Rows.pinsTextsRow.domain false w args ∧ laidMetH Tryd.prog Rows.pinsTextsRow.laid w) ∧ sizedMet enc Tryd.prog Tryd.f5 (OpenSpec.ofChange Rows.pinsTextsSpec) false w args)
      (Rows.pinsTextsSpec.post enc Tryd.prog Tryd.f5 false true false false) := by
  refine returnsInHanded_of_change_and (C := Tryd.checked) (X := fun w _ => laidMetH Tryd.prog Rows.pinsTextsRow.laid w) (fun _ _ _ hh h => h.of_heap hh) Tryd.own started (by kernel_rfl) Tryd.func5
    (ChangeSpec.witness_shaped (enc := enc) (C := Tryd.checked) (os := os) (X := fun w _ => laidMetH Tryd.prog Rows.pinsTextsRow.laid w) false (World.laidAll Tryd.prog os Rows.pinsTextsRow.laid) #[.slice none 0 0] 8 (World.laidAll_os _ _ _)
      (World.shaped_of_ZipB (by kernel_rfl) (by kernel_rfl)) (by kernel_rfl) (by kernel_rfl) (by kernel_rfl)
      (by rw [MakeChecks.laidMetH_plain _ _ _ (by kernel_rfl)]; exact laidMet_laidAll _ (by kernel_rfl) (by kernel_rfl))) ?_
  intro W base args ds gs before hval0 hW _ _ hL _
  have hval : ∀ (j : Nat) t v, Tryd.f5.params[j]? = some t → args[j]? = some v → Value.okWide Tryd.prog W .any base t v := hval0
  have hW' := hW
  obtain ⟨p, q, hA0, hV, rfl, hfz, hnd⟩ := hW
  have hA : DataW.TrodAll enc Tryd.prog W 0 (fun _ => true) true Tryd.f5.params.toList args.toList ds p := hA0
  rw [Tryd.params5] at hA hval
  obtain ⟨v0, vs0, d0, ds0, pp0, pr0, hargs, rfl, rfl, h0, hA0'⟩ := trodAll_cons hA
  obtain ⟨rfl, rfl, rfl⟩ := trodAll_nil hA0'
  obtain ⟨rfl, rfl⟩ := trodVars_none hV
  obtain ⟨a⟩ := args
  simp only at hargs
  subst hargs
  obtain ⟨x0, hx0, hok0⟩ := arg_in (T := SX.W.T) (tab_ok SX.W.tab) (t := 46) (τ := .slice SX.W.y4) rfl rfl (hval 0 46 v0 rfl rfl) h0
  have hcall := law_calls (us := [v0]) (x := (x0, ())) (z := ()) (τs := [.slice SX.W.y4]) rfl SX.W.ok5 Tryd.func5 (by kernel_rfl) (by kernel_rfl) ⟨v0, [], rfl, hx0, rfl⟩ (SX.W.F5_true x0)
  refine hcall.mono fun e W' ⟨he, hb⟩ => ?_
  exact ⟨_, he, law_post (tb := 4) Tryd.laidOut (by rw [Tryd.params5]; decide +kernel) (by kernel_rfl) (by kernel_rfl) (by kernel_rfl) rfl hW' hb⟩

theorem pinsTexts_holds : Rows.PinsTextsSaid :=
  OpenClaim.holds_of_wide 5 Tryd.f5 rfl rfl rfl rfl rfl rfl rfl ⟨rfl, rfl, rfl, rfl, rfl⟩ rfl rfl rfl rfl rfl (by kernel_rfl) Tryd.func5 (by kernel_rfl)
    (of_decide_eq_true (by kernel_rfl)) (by unfold Func.isWrapper; first | (rw [if_pos (by decide +kernel)]; kernel_rfl) | (rw [if_neg (by decide +kernel)]; exact ⟨rfl, rfl⟩))
    (fun os started H enc _ => pinsTexts_lifted os started H enc)

theorem pinsTexts_card : Rows.PinsTextsCardSaid :=
  Claim7.holds_tied_plain_at .later [] [.data, .pinned] true (true, "8bd5ceb0933a9f46c5b90370a969aca0f533a681f55f2fb987c66a6f23e941a0") false pinsTexts_holds (fun _ h => by cases h) (by kernel_rfl) (fun _ h => by cases h) pinsTexts_row_tie rfl ⟨rfl, rfl⟩ (by kernel_rfl) rfl
    (fun f fn hf hfn => by
      obtain rfl : f = 5 := Option.some.inj ((show Tryd.prog.funcNamed "spinet/spinetlaw31.PinsTexts" = some 5 by kernel_rfl).symm.trans hf) |>.symm
      obtain rfl : fn = Tryd.f5 := (Option.some.inj (Tryd.func5.symm.trans hfn)).symm
      exact ⟨by kernel_rfl, fun j t ht => by
        rw [Tryd.params5] at ht
        have hm : t ∈ [46] := by simpa using Array.mem_of_getElem? ht
        exact (show ∀ t ∈ [46], Tryd.prog.wantsStandIn t = false by decide +kernel) t hm⟩)
    (by kernel_rfl)

end Go.Proofs.YtmblgpbcclpgjaaDoor
