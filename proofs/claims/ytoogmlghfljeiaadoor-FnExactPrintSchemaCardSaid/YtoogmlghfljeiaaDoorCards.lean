/-
  DERIVED. GIVEN WITH THE SEED: THE CARDS: each row of YtoogmlghfljeiaaDoorRows.lean that lists a variable, with what it lists TIED to the program's text (the seventh form; the later family's looks); each row that meets fmt, with fmt's text TOLD by the authors' own Lean function (tested against real Go, not proved from fmt's source: count such statements apart). THE CARD IS WHAT COUNTS. Prove the row's statement (the work); the ties are given (YtoogmlghfljeiaaDoorTie.lean); close each card by the builder's one call (the guide's Derived/Test/ToyasCard.lean, 'card_holds'). Laid BY PROGRAM, IN A SANDBOX (cutbox-door.mjs). By AI agents, Wed Nov 11 2026. No macro, syntax, notation, axiom, sorry.
-/
import Derived.Test.YtoogmlghfljeiaaDoorRows
import GoSem.ClaimSeven
namespace Go.Proofs.YtoogmlghfljeiaaDoor
namespace Rows

/-- THE TIED CARD OF 'laws.FnExactPrintSchema'. -/
def fnExactPrintSchemaCard : Claim7 := { stood := { row := fnExactPrintSchemaRow, standIns := [], harness := (true, "36c0385c2de2ffd2ca0d057e42984cf8ae915ebee3e47a8944d3c5eb7fe4b7a1"), looks := false }, kinds := [], alts := [], laidByText := true, laidKinds := [.data, .data, .data], laidTests := true, laidLooks := .later }
def FnExactPrintSchemaCardSaid : Prop := Claim7.holds Tryd.pinned (.plain (OpenSpec.ofChange fnExactPrintSchemaSpec)) fnExactPrintSchemaCard

/-- THE SECOND FORM's CARD OF 'laws.FnExactPrintSchema'. -/
def fnExactPrintSchemaUptoCard : Claim7 := { stood := { row := fnExactPrintSchemaUptoRow, standIns := [], harness := (true, "36c0385c2de2ffd2ca0d057e42984cf8ae915ebee3e47a8944d3c5eb7fe4b7a1"), looks := false }, kinds := [], alts := [], laidByText := true, laidKinds := [.data, .data, .data], laidTests := true, laidLooks := .later }
def FnExactPrintSchemaUptoCardSaid : Prop := Claim7.holds Tryd.pinned (.plain (OpenSpec.upto fnExactPrintSchemaSpec)) fnExactPrintSchemaUptoCard
end Rows
end Go.Proofs.YtoogmlghfljeiaaDoor
