/- 'spinetlaw48.SliceCuts' ANSWERS TRUE WHATEVER THE INPUT, AND LEAVES ITS INPUT AS IT WAS. No further condition. -/
import Derived.Test.YtamhndcofojppaaRows
import Derived.Test.YtamhndcofojppaaSxLawC
import Derived.Test.YtamhndcofojppaaSxK3
import Derived.ProofKit
namespace Go.Proofs.Ytamhndcofojppaa
open Go.ChangeShapes Go.WideShapes Go.ChangeAt Go.RowKit Go.SX

theorem Try.own : ownKnob Try.prog.godebug = none := by kernel_rfl
theorem Try.laidOut : laidOutB Try.prog = true := by kernel_rfl

theorem ty4 : Try.f4.params.toList = [39] := by rw [Try.params4]

set_option maxRecDepth 100000 in
theorem sliceCuts_lifted (os : Os) (started : os.Started) (H : Type) (enc : TypeId × Value → H) :
    ReturnsInHanded {} Try.checked os 4 .any (Rows.sliceCutsSpec.pre6 enc Try.prog Try.f4 Rows.sliceCutsRow.domain false) (Rows.sliceCutsSpec.post enc Try.prog Try.f4 false true false false) := by
  refine returnsInHanded_of_change (C := Try.checked) Try.own started (by kernel_rfl) Try.func4
    (ChangeSpec.witness6 (enc := enc) (C := Try.checked) false ⟨#[], #[.slice none 0 0], []⟩ 8 (by kernel_rfl) (by kernel_rfl) (by kernel_rfl) (by kernel_rfl)) ?_
  intro W base args ds gs before hval0 hW hcnd _
  have hval : ∀ (j : Nat) t v, Try.f4.params[j]? = some t → args[j]? = some v → Value.okWide Try.prog W .any base t v := hval0
  have hW' := hW
  obtain ⟨p, q, hA0, hV, rfl, hfz, hnd⟩ := hW
  have hA : DataW.TrodAll enc Try.prog W 0 (fun _ => true) true Try.f4.params.toList args.toList ds p := hA0
  rw [Try.params4] at hA hval
  obtain ⟨v0, vs0, d0, ds0, p0, p1, hargs, rfl, rfl, h0, hA1⟩ := trodAll_cons hA
  obtain ⟨rfl, rfl, rfl⟩ := trodAll_nil hA1
  obtain ⟨rfl, rfl⟩ := trodVars_none hV
  obtain ⟨a⟩ := args
  simp only at hargs
  subst hargs
  obtain ⟨x, hx, hok⟩ := arg_in (T := SX.W.T) (tab_ok SX.W.tab) (t := 39) (τ := .slice SX.W.y3) rfl rfl (hval 0 39 v0 rfl rfl) h0
  have hcall := law_calls (us := [v0]) (x := (x, ())) (z := ()) (τs := [.slice SX.W.y3]) rfl SX.W.ok4 Try.func4 (by kernel_rfl) (by kernel_rfl) ⟨v0, [], rfl, hx, rfl⟩ (SX.W.F4_eqn x hok.2)
  refine hcall.mono fun e W' ⟨he, hb⟩ => ?_
  exact ⟨_, he, law_post (tb := 4) Try.laidOut (by rw [Try.params4]; decide +kernel) (by kernel_rfl) (by kernel_rfl) (by kernel_rfl) rfl hW' hb⟩

theorem sliceCuts_holds : Rows.SliceCutsSaid :=
  OpenClaim.holds_of_wide 4 Try.f4 rfl rfl rfl rfl rfl rfl rfl ⟨rfl, rfl, rfl, rfl, rfl⟩ rfl rfl rfl rfl rfl (by kernel_rfl) Try.func4 (by kernel_rfl)
    (of_decide_eq_true (by kernel_rfl)) (by unfold Func.isWrapper; first | (rw [if_pos (by decide +kernel)]; kernel_rfl) | (rw [if_neg (by decide +kernel)]; exact ⟨rfl, rfl⟩))
    (fun os started H enc _ => sliceCuts_lifted os started H enc)

end Go.Proofs.Ytamhndcofojppaa
