/-
  DERIVED. GIVEN WITH THE SEED: THE CARDS: each row of YtelgddealjbgiaaDoorRows.lean that lists a variable, with what it lists TIED to the program's text (the seventh form; the later family's looks); each row that meets fmt, with fmt's text TOLD by the authors' own Lean function (tested against real Go, not proved from fmt's source: count such statements apart). THE CARD IS WHAT COUNTS. Prove the row's statement (the work); the ties are given (YtelgddealjbgiaaDoorTie.lean); close each card by the builder's one call (the guide's Derived/Test/ToyasCard.lean, 'card_holds'). Laid BY PROGRAM, IN A SANDBOX (cutbox-door.mjs). By AI agents, Wed Nov 11 2026. No macro, syntax, notation, axiom, sorry.
-/
import Derived.Test.YtelgddealjbgiaaDoorRows
import GoSem.ClaimSeven
namespace Go.Proofs.YtelgddealjbgiaaDoor
namespace Rows

/-- THE TIED CARD OF 'abridgerlaw14.CnameTells'. -/
def cnameTellsCard : Claim7 := { stood := { row := cnameTellsRow, standIns := [], harness := (true, "a80c622fcc8657389ebce4dae4e156fac90bbdbaa0e1e0edfe6ab97cb90d5fd4"), looks := true }, kinds := [], alts := [], laidByText := true, laidKinds := [.data, .data, .data, .sentinel, .sentinel], laidTests := true, laidLooks := .later }
def CnameTellsCardSaid : Prop := Claim7.holds Tryd.pinned (.plain (OpenSpec.ofChange cnameTellsSpec)) cnameTellsCard

/-- THE TIED CARD OF 'abridgerlaw14.CnameBack'. -/
def cnameBackCard : Claim7 := { stood := { row := cnameBackRow, standIns := [], harness := (true, "a80c622fcc8657389ebce4dae4e156fac90bbdbaa0e1e0edfe6ab97cb90d5fd4"), looks := true }, kinds := [], alts := [], laidByText := true, laidKinds := [.data, .data, .data, .sentinel, .sentinel], laidTests := true, laidLooks := .later }
def CnameBackCardSaid : Prop := Claim7.holds Tryd.pinned (.plain (OpenSpec.ofChange cnameBackSpec)) cnameBackCard

/-- THE TIED CARD OF 'abridgerlaw14.CnameEscapes'. -/
def cnameEscapesCard : Claim7 := { stood := { row := cnameEscapesRow, standIns := [], harness := (true, "a80c622fcc8657389ebce4dae4e156fac90bbdbaa0e1e0edfe6ab97cb90d5fd4"), looks := true }, kinds := [], alts := [], laidByText := true, laidKinds := [.data, .data, .data, .sentinel, .sentinel], laidTests := true, laidLooks := .later }
def CnameEscapesCardSaid : Prop := Claim7.holds Tryd.pinned (.plain (OpenSpec.ofChange cnameEscapesSpec)) cnameEscapesCard

/-- THE TIED CARD OF 'abridgerlaw14.CnameQuotes'. -/
def cnameQuotesCard : Claim7 := { stood := { row := cnameQuotesRow, standIns := [], harness := (true, "a80c622fcc8657389ebce4dae4e156fac90bbdbaa0e1e0edfe6ab97cb90d5fd4"), looks := true }, kinds := [], alts := [], laidByText := true, laidKinds := [.data, .data, .data, .sentinel, .sentinel], laidTests := true, laidLooks := .later }
def CnameQuotesCardSaid : Prop := Claim7.holds Tryd.pinned (.plain (OpenSpec.ofChange cnameQuotesSpec)) cnameQuotesCard

/-- THE TIED CARD OF 'abridgerlaw14.CnameFirst'. -/
def cnameFirstCard : Claim7 := { stood := { row := cnameFirstRow, standIns := [], harness := (true, "a80c622fcc8657389ebce4dae4e156fac90bbdbaa0e1e0edfe6ab97cb90d5fd4"), looks := true }, kinds := [], alts := [], laidByText := true, laidKinds := [.data, .data, .data, .sentinel, .sentinel], laidTests := true, laidLooks := .later }
def CnameFirstCardSaid : Prop := Claim7.holds Tryd.pinned (.plain (OpenSpec.ofChange cnameFirstSpec)) cnameFirstCard

/-- THE SECOND FORM's CARD OF 'abridgerlaw14.CnameTells'. -/
def cnameTellsUptoCard : Claim7 := { stood := { row := cnameTellsUptoRow, standIns := [], harness := (true, "a80c622fcc8657389ebce4dae4e156fac90bbdbaa0e1e0edfe6ab97cb90d5fd4"), looks := true }, kinds := [], alts := [], laidByText := true, laidKinds := [.data, .data, .data, .sentinel, .sentinel], laidTests := true, laidLooks := .later }
def CnameTellsUptoCardSaid : Prop := Claim7.holds Tryd.pinned (.plain (OpenSpec.upto cnameTellsSpec)) cnameTellsUptoCard

/-- THE SECOND FORM's CARD OF 'abridgerlaw14.CnameBack'. -/
def cnameBackUptoCard : Claim7 := { stood := { row := cnameBackUptoRow, standIns := [], harness := (true, "a80c622fcc8657389ebce4dae4e156fac90bbdbaa0e1e0edfe6ab97cb90d5fd4"), looks := true }, kinds := [], alts := [], laidByText := true, laidKinds := [.data, .data, .data, .sentinel, .sentinel], laidTests := true, laidLooks := .later }
def CnameBackUptoCardSaid : Prop := Claim7.holds Tryd.pinned (.plain (OpenSpec.upto cnameBackSpec)) cnameBackUptoCard

/-- THE SECOND FORM's CARD OF 'abridgerlaw14.CnameEscapes'. -/
def cnameEscapesUptoCard : Claim7 := { stood := { row := cnameEscapesUptoRow, standIns := [], harness := (true, "a80c622fcc8657389ebce4dae4e156fac90bbdbaa0e1e0edfe6ab97cb90d5fd4"), looks := true }, kinds := [], alts := [], laidByText := true, laidKinds := [.data, .data, .data, .sentinel, .sentinel], laidTests := true, laidLooks := .later }
def CnameEscapesUptoCardSaid : Prop := Claim7.holds Tryd.pinned (.plain (OpenSpec.upto cnameEscapesSpec)) cnameEscapesUptoCard

/-- THE SECOND FORM's CARD OF 'abridgerlaw14.CnameQuotes'. -/
def cnameQuotesUptoCard : Claim7 := { stood := { row := cnameQuotesUptoRow, standIns := [], harness := (true, "a80c622fcc8657389ebce4dae4e156fac90bbdbaa0e1e0edfe6ab97cb90d5fd4"), looks := true }, kinds := [], alts := [], laidByText := true, laidKinds := [.data, .data, .data, .sentinel, .sentinel], laidTests := true, laidLooks := .later }
def CnameQuotesUptoCardSaid : Prop := Claim7.holds Tryd.pinned (.plain (OpenSpec.upto cnameQuotesSpec)) cnameQuotesUptoCard

/-- THE SECOND FORM's CARD OF 'abridgerlaw14.CnameFirst'. -/
def cnameFirstUptoCard : Claim7 := { stood := { row := cnameFirstUptoRow, standIns := [], harness := (true, "a80c622fcc8657389ebce4dae4e156fac90bbdbaa0e1e0edfe6ab97cb90d5fd4"), looks := true }, kinds := [], alts := [], laidByText := true, laidKinds := [.data, .data, .data, .sentinel, .sentinel], laidTests := true, laidLooks := .later }
def CnameFirstUptoCardSaid : Prop := Claim7.holds Tryd.pinned (.plain (OpenSpec.upto cnameFirstSpec)) cnameFirstUptoCard
end Rows
end Go.Proofs.YtelgddealjbgiaaDoor
