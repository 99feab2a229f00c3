/- 'spinetlaw50.WaveDraws' ANSWERS TRUE WHATEVER THE INPUT, AND LEAVES ITS INPUT AS IT WAS; the card: its listed package-level variables are tied to the program's text. No further condition. -/
import Derived.Test.YtmblgpbcclpgjaaDoorCards
import Derived.Test.YtmblgpbcclpgjaaDoorTie
import Derived.Test.YtmblgpbcclpgjaaDoorSxDraws2
import Derived.Test.YtmblgpbcclpgjaaDoorSxK4
import Derived.ProofKit
import Derived.Lay
import Derived.LaidLaws
import Derived.SevenTiedAt
namespace Go.Proofs.YtmblgpbcclpgjaaDoor
open Go.ChangeShapes Go.WideShapes Go.ChangeAt Go.RowKit Go.SX

theorem Tryd.own : ownKnob Tryd.prog.godebug = none := by kernel_rfl
theorem Tryd.laidOut : laidOutB Tryd.prog = true := by kernel_rfl
set_option maxRecDepth 100000 in
theorem waveDraws_lifted (os : Os) (started : os.Started) (H : Type) (enc : TypeId × Value → H) :
    ReturnsInHanded {} Tryd.checked os 6 .any (fun w args => (Rows.waveDrawsSpec.pre enc Tryd.prog Tryd.f6 Rows.waveDrawsRow.domain false w args ∧ laidMetH Tryd.prog Rows.waveDrawsRow.laid w) ∧ sizedMet enc Tryd.prog Tryd.f6 (OpenSpec.ofChange Rows.waveDrawsSpec) false w args)
      (Rows.waveDrawsSpec.post enc Tryd.prog Tryd.f6 false true false false) := by
  refine returnsInHanded_and_shaped (C := Tryd.checked) (X := fun w _ => laidMetH Tryd.prog Rows.waveDrawsRow.laid w) (fun _ _ _ hh h => h.of_heap hh) Tryd.own started (by kernel_rfl) Tryd.func6
    (ChangeSpec.witness_shaped (enc := enc) (C := Tryd.checked) (os := os) (X := fun w _ => laidMetH Tryd.prog Rows.waveDrawsRow.laid w) false (World.laidAll Tryd.prog os Rows.waveDrawsRow.laid) #[.slice none 0 0, .int .i64 0] 8 (World.laidAll_os _ _ _)
      (World.shaped_of_ZipB (by kernel_rfl) (by kernel_rfl)) (by kernel_rfl) (by kernel_rfl) (by kernel_rfl)
      (by rw [MakeChecks.laidMetH_plain _ _ _ (by kernel_rfl)]; exact laidMet_laidAll _ (by kernel_rfl) (by kernel_rfl))) ?_
  intro W base args ds gs before hval0 hW hL hsh
  have hval : ∀ (j : Nat) t v, Tryd.f6.params[j]? = some t → args[j]? = some v → Value.okWide Tryd.prog W .any base t v := hval0
  have hW' := hW
  obtain ⟨p, q, hA0, hV, rfl, hfz, hnd⟩ := hW
  have hA : DataW.TrodAll enc Tryd.prog W 0 (fun _ => true) true Tryd.f6.params.toList args.toList ds p := hA0
  rw [Tryd.params6] at hA hval
  obtain ⟨v0, vs0, d0, ds0, pp0, pr0, hargs, rfl, rfl, h0, hA0'⟩ := trodAll_cons hA
  obtain ⟨v1, vs1, d1, ds1, pp1, pr1, rfl, rfl, rfl, h1, hA1'⟩ := trodAll_cons hA0'
  obtain ⟨rfl, rfl, rfl⟩ := trodAll_nil hA1'
  obtain ⟨rfl, rfl⟩ := trodVars_none hV
  obtain ⟨a⟩ := args
  simp only at hargs
  subst hargs
  obtain ⟨x0, hx0, hok0⟩ := arg_in (T := SX.W.T) (tab_ok SX.W.tab) (t := 39) (τ := .slice SX.W.y3) rfl rfl (hval 0 39 v0 rfl rfl) h0
  obtain ⟨x1, hx1, hok1⟩ := arg_in (T := SX.W.T) (tab_ok SX.W.tab) (t := 3) (τ := .int .i64) rfl rfl (hval 1 3 v1 rfl rfl) h1
  have hcall := law_calls (us := [v0, v1]) (x := (x0, x1, ())) (z := ()) (τs := [.slice SX.W.y3, .int .i64]) rfl SX.W.ok6 Tryd.func6 (by kernel_rfl) (by kernel_rfl) (glob_shaped (g := 0) (t := 3) hsh (by kernel_rfl) (of_decide_eq_true (by kernel_rfl)) (by kernel_rfl) (by kernel_rfl) (by kernel_rfl) Tryd.underlying3) ⟨v0, [v1], rfl, hx0, v1, [], rfl, hx1, rfl⟩ (SX.W.F6_true x0 x1)
  refine hcall.mono fun e W' ⟨he, hb⟩ => ?_
  exact ⟨_, he, law_post (tb := 4) Tryd.laidOut (by rw [Tryd.params6]; decide +kernel) (by kernel_rfl) (by kernel_rfl) (by kernel_rfl) rfl hW' hb⟩

theorem waveDraws_holds : Rows.WaveDrawsSaid :=
  OpenClaim.holds_of_wide 6 Tryd.f6 rfl rfl rfl rfl rfl rfl rfl ⟨rfl, rfl, rfl, rfl, rfl⟩ rfl rfl rfl rfl rfl (by kernel_rfl) Tryd.func6 (by kernel_rfl)
    (of_decide_eq_true (by kernel_rfl)) (by unfold Func.isWrapper; first | (rw [if_pos (by decide +kernel)]; kernel_rfl) | (rw [if_neg (by decide +kernel)]; exact ⟨rfl, rfl⟩))
    (fun os started H enc _ => waveDraws_lifted os started H enc)

theorem waveDraws_card : Rows.WaveDrawsCardSaid :=
  Claim7.holds_tied_plain_at .later [] [.data, .pinned] true (true, "8bd5ceb0933a9f46c5b90370a969aca0f533a681f55f2fb987c66a6f23e941a0") false waveDraws_holds (fun _ h => by cases h) (by kernel_rfl) (fun _ h => by cases h) waveDraws_row_tie rfl ⟨rfl, rfl⟩ (by kernel_rfl) rfl
    (fun f fn hf hfn => by
      obtain rfl : f = 6 := Option.some.inj ((show Tryd.prog.funcNamed "spinet/spinetlaw50.WaveDraws" = some 6 by kernel_rfl).symm.trans hf) |>.symm
      obtain rfl : fn = Tryd.f6 := (Option.some.inj (Tryd.func6.symm.trans hfn)).symm
      exact ⟨by kernel_rfl, fun j t ht => by
        rw [Tryd.params6] at ht
        have hm : t ∈ [39, 3] := by simpa using Array.mem_of_getElem? ht
        exact (show ∀ t ∈ [39, 3], Tryd.prog.wantsStandIn t = false by decide +kernel) t hm⟩)
    (by kernel_rfl)

end Go.Proofs.YtmblgpbcclpgjaaDoor
