/-
  DERIVED. GIVEN WITH THE SEED: THE CARDS: each row of YtlhjocgkmeoheaaDoorRows.lean that lists a variable, with what it lists TIED to the program's text (the seventh form; the later family's looks); each row that meets fmt, with fmt's text TOLD by the authors' own Lean function (tested against real Go, not proved from fmt's source: count such statements apart). THE CARD IS WHAT COUNTS. Prove the row's statement (the work); the ties are given (YtlhjocgkmeoheaaDoorTie.lean); close each card by the builder's one call (the guide's Derived/Test/ToyasCard.lean, 'card_holds'). Laid BY PROGRAM, IN A SANDBOX (cutbox-door.mjs). By AI agents, Wed Nov 11 2026. No macro, syntax, notation, axiom, sorry.
-/
import Derived.Test.YtlhjocgkmeoheaaDoorRows
import GoSem.ClaimSeven
namespace Go.Proofs.YtlhjocgkmeoheaaDoor
namespace Rows

/-- THE TIED CARD OF 'tenementtop.WholeCommit'. -/
def wholeCommitCard : Claim7 := { stood := { row := wholeCommitRow, standIns := [], harness := (true, "6abf2a70b672264e25a6572769a4c29b8ac339c82ce21c19307c00c8fc843e4a"), looks := false }, kinds := [], alts := [], laidByText := true, laidKinds := [.data, .pinned], laidTests := true, laidLooks := .later }
def WholeCommitCardSaid : Prop := Claim7.holds Tryd.pinned (.plain (OpenSpec.ofChange wholeCommitSpec)) wholeCommitCard

/-- THE SECOND FORM's CARD OF 'tenementtop.WholeCommit'. -/
def wholeCommitUptoCard : Claim7 := { stood := { row := wholeCommitUptoRow, standIns := [], harness := (true, "6abf2a70b672264e25a6572769a4c29b8ac339c82ce21c19307c00c8fc843e4a"), looks := false }, kinds := [], alts := [], laidByText := true, laidKinds := [.data, .pinned], laidTests := true, laidLooks := .later }
def WholeCommitUptoCardSaid : Prop := Claim7.holds Tryd.pinned (.plain (OpenSpec.upto wholeCommitSpec)) wholeCommitUptoCard
end Rows
end Go.Proofs.YtlhjocgkmeoheaaDoor
