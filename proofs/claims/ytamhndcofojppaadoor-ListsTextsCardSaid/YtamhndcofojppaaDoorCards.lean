/-
  DERIVED. GIVEN WITH THE SEED: THE CARDS: each row of YtamhndcofojppaaDoorRows.lean that lists a variable, with what it lists TIED to the program's text (the seventh form; the later family's looks); each row that meets fmt, with fmt's text TOLD by the authors' own Lean function (tested against real Go, not proved from fmt's source: count such statements apart). THE CARD IS WHAT COUNTS. Prove the row's statement (the work); the ties are given (YtamhndcofojppaaDoorTie.lean); close each card by the builder's one call (the guide's Derived/Test/ToyasCard.lean, 'card_holds'). Laid BY PROGRAM, IN A SANDBOX (cutbox-door.mjs). By AI agents, Wed Nov 11 2026. No macro, syntax, notation, axiom, sorry.
-/
import Derived.Test.YtamhndcofojppaaDoorRows
import GoSem.ClaimSeven
namespace Go.Proofs.YtamhndcofojppaaDoor
namespace Rows

/-- THE TIED CARD OF 'spinetlaw17.ListsTexts'. -/
def listsTextsCard : Claim7 := { stood := { row := listsTextsRow, standIns := [], harness := (true, "81372923e2a54450a0bc8485ed0bece4f4afe2d317501aa54b92aeda70ae88e9"), looks := false }, kinds := [], alts := [], laidByText := true, laidKinds := [.data, .pinned], laidTests := true, laidLooks := .later }
def ListsTextsCardSaid : Prop := Claim7.holds Tryd.pinned (.plain (OpenSpec.ofChange listsTextsSpec)) listsTextsCard

/-- THE SECOND FORM's CARD OF 'spinetlaw17.ListsTexts'. -/
def listsTextsUptoCard : Claim7 := { stood := { row := listsTextsUptoRow, standIns := [], harness := (true, "81372923e2a54450a0bc8485ed0bece4f4afe2d317501aa54b92aeda70ae88e9"), looks := false }, kinds := [], alts := [], laidByText := true, laidKinds := [.data, .pinned], laidTests := true, laidLooks := .later }
def ListsTextsUptoCardSaid : Prop := Claim7.holds Tryd.pinned (.plain (OpenSpec.upto listsTextsSpec)) listsTextsUptoCard
end Rows
end Go.Proofs.YtamhndcofojppaaDoor
