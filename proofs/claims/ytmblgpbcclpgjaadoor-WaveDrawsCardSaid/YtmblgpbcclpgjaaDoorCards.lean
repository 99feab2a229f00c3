/-
  DERIVED. GIVEN WITH THE SEED: THE CARDS: each row of YtmblgpbcclpgjaaDoorRows.lean that lists a variable, with what it lists TIED to the program's text (the seventh form; the later family's looks); each row that meets fmt, with fmt's text TOLD by the authors' own Lean function (tested against real Go, not proved from fmt's source: count such statements apart). THE CARD IS WHAT COUNTS. Prove the row's statement (the work); the ties are given (YtmblgpbcclpgjaaDoorTie.lean); close each card by the builder's one call (the guide's Derived/Test/ToyasCard.lean, 'card_holds'). Laid BY PROGRAM, IN A SANDBOX (cutbox-door.mjs). By AI agents, Wed Nov 11 2026. No macro, syntax, notation, axiom, sorry.
-/
import Derived.Test.YtmblgpbcclpgjaaDoorRows
import GoSem.ClaimSeven
namespace Go.Proofs.YtmblgpbcclpgjaaDoor
namespace Rows

/-- THE TIED CARD OF 'spinetlaw40.SrecPuts'. -/
def srecPutsCard : Claim7 := { stood := { row := srecPutsRow, standIns := [], harness := (true, "8bd5ceb0933a9f46c5b90370a969aca0f533a681f55f2fb987c66a6f23e941a0"), looks := false }, kinds := [], alts := [], laidByText := true, laidKinds := [.data, .pinned], laidTests := true, laidLooks := .later }
def SrecPutsCardSaid : Prop := Claim7.holds Tryd.pinned (.plain (OpenSpec.ofChange srecPutsSpec)) srecPutsCard

/-- THE TIED CARD OF 'spinetlaw50.WaveReads'. -/
def waveReadsCard : Claim7 := { stood := { row := waveReadsRow, standIns := [], harness := (true, "8bd5ceb0933a9f46c5b90370a969aca0f533a681f55f2fb987c66a6f23e941a0"), looks := false }, kinds := [], alts := [], laidByText := true, laidKinds := [.data, .pinned], laidTests := true, laidLooks := .later }
def WaveReadsCardSaid : Prop := Claim7.holds Tryd.pinned (.plain (OpenSpec.ofChange waveReadsSpec)) waveReadsCard

/-- THE TIED CARD OF 'spinetlaw31.PinsTexts'. -/
def pinsTextsCard : Claim7 := { stood := { row := pinsTextsRow, standIns := [], harness := (true, "8bd5ceb0933a9f46c5b90370a969aca0f533a681f55f2fb987c66a6f23e941a0"), looks := false }, kinds := [], alts := [], laidByText := true, laidKinds := [.data, .pinned], laidTests := true, laidLooks := .later }
def PinsTextsCardSaid : Prop := Claim7.holds Tryd.pinned (.plain (OpenSpec.ofChange pinsTextsSpec)) pinsTextsCard

/-- THE TIED CARD OF 'spinetlaw50.WaveDraws'. -/
def waveDrawsCard : Claim7 := { stood := { row := waveDrawsRow, standIns := [], harness := (true, "8bd5ceb0933a9f46c5b90370a969aca0f533a681f55f2fb987c66a6f23e941a0"), looks := false }, kinds := [], alts := [], laidByText := true, laidKinds := [.data, .pinned], laidTests := true, laidLooks := .later }
def WaveDrawsCardSaid : Prop := Claim7.holds Tryd.pinned (.plain (OpenSpec.ofChange waveDrawsSpec)) waveDrawsCard

/-- THE SECOND FORM's CARD OF 'spinetlaw40.SrecPuts'. -/
def srecPutsUptoCard : Claim7 := { stood := { row := srecPutsUptoRow, standIns := [], harness := (true, "8bd5ceb0933a9f46c5b90370a969aca0f533a681f55f2fb987c66a6f23e941a0"), looks := false }, kinds := [], alts := [], laidByText := true, laidKinds := [.data, .pinned], laidTests := true, laidLooks := .later }
def SrecPutsUptoCardSaid : Prop := Claim7.holds Tryd.pinned (.plain (OpenSpec.upto srecPutsSpec)) srecPutsUptoCard

/-- THE SECOND FORM's CARD OF 'spinetlaw50.WaveReads'. -/
def waveReadsUptoCard : Claim7 := { stood := { row := waveReadsUptoRow, standIns := [], harness := (true, "8bd5ceb0933a9f46c5b90370a969aca0f533a681f55f2fb987c66a6f23e941a0"), looks := false }, kinds := [], alts := [], laidByText := true, laidKinds := [.data, .pinned], laidTests := true, laidLooks := .later }
def WaveReadsUptoCardSaid : Prop := Claim7.holds Tryd.pinned (.plain (OpenSpec.upto waveReadsSpec)) waveReadsUptoCard

/-- THE SECOND FORM's CARD OF 'spinetlaw31.PinsTexts'. -/
def pinsTextsUptoCard : Claim7 := { stood := { row := pinsTextsUptoRow, standIns := [], harness := (true, "8bd5ceb0933a9f46c5b90370a969aca0f533a681f55f2fb987c66a6f23e941a0"), looks := false }, kinds := [], alts := [], laidByText := true, laidKinds := [.data, .pinned], laidTests := true, laidLooks := .later }
def PinsTextsUptoCardSaid : Prop := Claim7.holds Tryd.pinned (.plain (OpenSpec.upto pinsTextsSpec)) pinsTextsUptoCard

/-- THE SECOND FORM's CARD OF 'spinetlaw50.WaveDraws'. -/
def waveDrawsUptoCard : Claim7 := { stood := { row := waveDrawsUptoRow, standIns := [], harness := (true, "8bd5ceb0933a9f46c5b90370a969aca0f533a681f55f2fb987c66a6f23e941a0"), looks := false }, kinds := [], alts := [], laidByText := true, laidKinds := [.data, .pinned], laidTests := true, laidLooks := .later }
def WaveDrawsUptoCardSaid : Prop := Claim7.holds Tryd.pinned (.plain (OpenSpec.upto waveDrawsSpec)) waveDrawsUptoCard
end Rows
end Go.Proofs.YtmblgpbcclpgjaaDoor
