/-
  DERIVED. GIVEN WITH THE SEED: THE CARDS: each row of YtdmdkpjeeajkpaaDoorRows.lean that lists a variable, with what it lists TIED to the program's text (the seventh form; the later family's looks); each row that meets fmt, with fmt's text TOLD by the authors' own Lean function (tested against real Go, not proved from fmt's source: count such statements apart). THE CARD IS WHAT COUNTS. Prove the row's statement (the work); the ties are given (YtdmdkpjeeajkpaaDoorTie.lean); close each card by the builder's one call (the guide's Derived/Test/ToyasCard.lean, 'card_holds'). Laid BY PROGRAM, IN A SANDBOX (cutbox-door.mjs). By AI agents, Wed Nov 11 2026. No macro, syntax, notation, axiom, sorry.
-/
import Derived.Test.YtdmdkpjeeajkpaaDoorRows
import GoSem.ClaimSeven
namespace Go.Proofs.YtdmdkpjeeajkpaaDoor
namespace Rows

/-- THE TIED CARD OF 'laws.FnExactReadGraph'. -/
def fnExactReadGraphCard : Claim7 := { stood := { row := fnExactReadGraphRow, standIns := [], harness := (true, "63b0ebf294a136c0a688663ccb40187abffbe2c1724cca8b0af007f0ec96f21b"), looks := false }, kinds := [], alts := [], laidByText := true, laidKinds := [.data, .data, .data], laidTests := true, laidLooks := .later }
def FnExactReadGraphCardSaid : Prop := Claim7.holds Tryd.pinned (.plain (OpenSpec.ofChange fnExactReadGraphSpec)) fnExactReadGraphCard

/-- THE TIED CARD OF 'laws.FnExactGraphText'. -/
def fnExactGraphTextCard : Claim7 := { stood := { row := fnExactGraphTextRow, standIns := [], harness := (true, "63b0ebf294a136c0a688663ccb40187abffbe2c1724cca8b0af007f0ec96f21b"), looks := false }, kinds := [], alts := [], laidByText := true, laidKinds := [.data, .data, .data], laidTests := true, laidLooks := .later }
def FnExactGraphTextCardSaid : Prop := Claim7.holds Tryd.pinned (.plain (OpenSpec.ofChange fnExactGraphTextSpec)) fnExactGraphTextCard

/-- THE SECOND FORM's CARD OF 'laws.FnExactReadGraph'. -/
def fnExactReadGraphUptoCard : Claim7 := { stood := { row := fnExactReadGraphUptoRow, standIns := [], harness := (true, "63b0ebf294a136c0a688663ccb40187abffbe2c1724cca8b0af007f0ec96f21b"), looks := false }, kinds := [], alts := [], laidByText := true, laidKinds := [.data, .data, .data], laidTests := true, laidLooks := .later }
def FnExactReadGraphUptoCardSaid : Prop := Claim7.holds Tryd.pinned (.plain (OpenSpec.upto fnExactReadGraphSpec)) fnExactReadGraphUptoCard

/-- THE SECOND FORM's CARD OF 'laws.FnExactGraphText'. -/
def fnExactGraphTextUptoCard : Claim7 := { stood := { row := fnExactGraphTextUptoRow, standIns := [], harness := (true, "63b0ebf294a136c0a688663ccb40187abffbe2c1724cca8b0af007f0ec96f21b"), looks := false }, kinds := [], alts := [], laidByText := true, laidKinds := [.data, .data, .data], laidTests := true, laidLooks := .later }
def FnExactGraphTextUptoCardSaid : Prop := Claim7.holds Tryd.pinned (.plain (OpenSpec.upto fnExactGraphTextSpec)) fnExactGraphTextUptoCard
end Rows
end Go.Proofs.YtdmdkpjeeajkpaaDoor
