/-
  DERIVED. GIVEN WITH THE SEED: THE CARDS: each row of YtbngclibfnnejaaDoorRows.lean that lists a variable, with what it lists TIED to the program's text (the seventh form; the later family's looks); each row that meets fmt, with fmt's text TOLD by the authors' own Lean function (tested against real Go, not proved from fmt's source: count such statements apart). THE CARD IS WHAT COUNTS. Prove the row's statement (the work); the ties are given (YtbngclibfnnejaaDoorTie.lean); close each card by the builder's one call (the guide's Derived/Test/ToyasCard.lean, 'card_holds'). Laid BY PROGRAM, IN A SANDBOX (cutbox-door.mjs). By AI agents, Wed Nov 11 2026. No macro, syntax, notation, axiom, sorry.
-/
import Derived.Test.YtbngclibfnnejaaDoorRows
import GoSem.ClaimSeven
namespace Go.Proofs.YtbngclibfnnejaaDoor
namespace Rows

/-- THE TIED CARD OF 'chargenettop.SessionsBill'. -/
def sessionsBillCard : Claim7 := { stood := { row := sessionsBillRow, standIns := [], harness := (true, "7bd9ec169c8d7ffbf780af80c1acd13c9c26cf092fa86f873a333669ed122b22"), looks := false }, kinds := [], alts := [], laidByText := true, laidKinds := [.data], laidTests := true, laidLooks := .later }
def SessionsBillCardSaid : Prop := Claim7.holds Tryd.pinned (.plain (OpenSpec.ofChange sessionsBillSpec)) sessionsBillCard

/-- THE SECOND FORM's CARD OF 'chargenettop.SessionsBill'. -/
def sessionsBillUptoCard : Claim7 := { stood := { row := sessionsBillUptoRow, standIns := [], harness := (true, "7bd9ec169c8d7ffbf780af80c1acd13c9c26cf092fa86f873a333669ed122b22"), looks := false }, kinds := [], alts := [], laidByText := true, laidKinds := [.data], laidTests := true, laidLooks := .later }
def SessionsBillUptoCardSaid : Prop := Claim7.holds Tryd.pinned (.plain (OpenSpec.upto sessionsBillSpec)) sessionsBillUptoCard
end Rows
end Go.Proofs.YtbngclibfnnejaaDoor
