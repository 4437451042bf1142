/-
  DERIVED. GIVEN WITH THE SEED: THE CARDS: each row of YthokfhifahlohaaDoorRows.lean that lists a variable, with what it lists TIED to the program's text (the seventh form; the later family's looks); each row that meets fmt, with fmt's text TOLD by the authors' own Lean function (tested against real Go, not proved from fmt's source: count such statements apart). THE CARD IS WHAT COUNTS. Prove the row's statement (the work); the ties are given (YthokfhifahlohaaDoorTie.lean); close each card by the builder's one call (the guide's Derived/Test/ToyasCard.lean, 'card_holds'). Laid BY PROGRAM, IN A SANDBOX (cutbox-door.mjs). By AI agents, Wed Nov 11 2026. No macro, syntax, notation, axiom, sorry.
-/
import Derived.Test.YthokfhifahlohaaDoorRows
import GoSem.ClaimSeven
namespace Go.Proofs.YthokfhifahlohaaDoor
namespace Rows

/-- THE TIED CARD OF 'abridgerlaw25.SreadCuts'. -/
def sreadCutsCard : Claim7 := { stood := { row := sreadCutsRow, standIns := [], harness := (true, "cb265f49978f47441e1b4b20e2560cff5930aed91df317df77fb28491db6cca5"), looks := false }, kinds := [], alts := [], laidByText := true, laidKinds := [.data, .pinned], laidTests := true, laidLooks := .later }
def SreadCutsCardSaid : Prop := Claim7.holds Tryd.pinned (.plain (OpenSpec.ofChange sreadCutsSpec)) sreadCutsCard

/-- THE TIED CARD OF 'abridgerlaw25.SreadWrong'. -/
def sreadWrongCard : Claim7 := { stood := { row := sreadWrongRow, standIns := [], harness := (true, "cb265f49978f47441e1b4b20e2560cff5930aed91df317df77fb28491db6cca5"), looks := false }, kinds := [], alts := [], laidByText := true, laidKinds := [.data, .pinned], laidTests := true, laidLooks := .later }
def SreadWrongCardSaid : Prop := Claim7.holds Tryd.pinned (.plain (OpenSpec.ofChange sreadWrongSpec)) sreadWrongCard

/-- THE SECOND FORM's CARD OF 'abridgerlaw25.SreadCuts'. -/
def sreadCutsUptoCard : Claim7 := { stood := { row := sreadCutsUptoRow, standIns := [], harness := (true, "cb265f49978f47441e1b4b20e2560cff5930aed91df317df77fb28491db6cca5"), looks := false }, kinds := [], alts := [], laidByText := true, laidKinds := [.data, .pinned], laidTests := true, laidLooks := .later }
def SreadCutsUptoCardSaid : Prop := Claim7.holds Tryd.pinned (.plain (OpenSpec.upto sreadCutsSpec)) sreadCutsUptoCard

/-- THE SECOND FORM's CARD OF 'abridgerlaw25.SreadWrong'. -/
def sreadWrongUptoCard : Claim7 := { stood := { row := sreadWrongUptoRow, standIns := [], harness := (true, "cb265f49978f47441e1b4b20e2560cff5930aed91df317df77fb28491db6cca5"), looks := false }, kinds := [], alts := [], laidByText := true, laidKinds := [.data, .pinned], laidTests := true, laidLooks := .later }
def SreadWrongUptoCardSaid : Prop := Claim7.holds Tryd.pinned (.plain (OpenSpec.upto sreadWrongSpec)) sreadWrongUptoCard
end Rows
end Go.Proofs.YthokfhifahlohaaDoor
