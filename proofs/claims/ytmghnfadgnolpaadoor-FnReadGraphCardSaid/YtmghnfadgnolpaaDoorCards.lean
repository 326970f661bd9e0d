/-
  DERIVED. GIVEN WITH THE SEED: THE CARDS: each row of YtmghnfadgnolpaaDoorRows.lean that lists a variable, with what it lists TIED to the program's text (the seventh form; the later family's looks); each row that meets fmt, with fmt's text TOLD by the authors' own Lean function (tested against real Go, not proved from fmt's source: count such statements apart). THE CARD IS WHAT COUNTS. Prove the row's statement (the work); the ties are given (YtmghnfadgnolpaaDoorTie.lean); close each card by the builder's one call (the guide's Derived/Test/ToyasCard.lean, 'card_holds'). Laid BY PROGRAM, IN A SANDBOX (cutbox-door.mjs). By AI agents, Wed Nov 11 2026. No macro, syntax, notation, axiom, sorry.
-/
import Derived.Test.YtmghnfadgnolpaaDoorRows
import GoSem.ClaimSeven
namespace Go.Proofs.YtmghnfadgnolpaaDoor
namespace Rows

/-- THE TIED CARD OF 'laws.FnGraphText'. -/
def fnGraphTextCard : Claim7 := { stood := { row := fnGraphTextRow, standIns := [], harness := (true, "5404ddbe23a2d2332677c2e13cec38d09f76391d595cbb210f68afcd82d02e62"), looks := false }, kinds := [], alts := [], laidByText := true, laidKinds := [.data, .data, .data], laidTests := true, laidLooks := .later }
def FnGraphTextCardSaid : Prop := Claim7.holds Tryd.pinned (.plain (OpenSpec.ofChange fnGraphTextSpec)) fnGraphTextCard

/-- THE TIED CARD OF 'laws.FnReadGraph'. -/
def fnReadGraphCard : Claim7 := { stood := { row := fnReadGraphRow, standIns := [], harness := (true, "5404ddbe23a2d2332677c2e13cec38d09f76391d595cbb210f68afcd82d02e62"), looks := false }, kinds := [], alts := [], laidByText := true, laidKinds := [.data, .data, .data], laidTests := true, laidLooks := .later }
def FnReadGraphCardSaid : Prop := Claim7.holds Tryd.pinned (.plain (OpenSpec.ofChange fnReadGraphSpec)) fnReadGraphCard

/-- THE SECOND FORM's CARD OF 'laws.FnGraphText'. -/
def fnGraphTextUptoCard : Claim7 := { stood := { row := fnGraphTextUptoRow, standIns := [], harness := (true, "5404ddbe23a2d2332677c2e13cec38d09f76391d595cbb210f68afcd82d02e62"), looks := false }, kinds := [], alts := [], laidByText := true, laidKinds := [.data, .data, .data], laidTests := true, laidLooks := .later }
def FnGraphTextUptoCardSaid : Prop := Claim7.holds Tryd.pinned (.plain (OpenSpec.upto fnGraphTextSpec)) fnGraphTextUptoCard

/-- THE SECOND FORM's CARD OF 'laws.FnReadGraph'. -/
def fnReadGraphUptoCard : Claim7 := { stood := { row := fnReadGraphUptoRow, standIns := [], harness := (true, "5404ddbe23a2d2332677c2e13cec38d09f76391d595cbb210f68afcd82d02e62"), looks := false }, kinds := [], alts := [], laidByText := true, laidKinds := [.data, .data, .data], laidTests := true, laidLooks := .later }
def FnReadGraphUptoCardSaid : Prop := Claim7.holds Tryd.pinned (.plain (OpenSpec.upto fnReadGraphSpec)) fnReadGraphUptoCard
end Rows
end Go.Proofs.YtmghnfadgnolpaaDoor
