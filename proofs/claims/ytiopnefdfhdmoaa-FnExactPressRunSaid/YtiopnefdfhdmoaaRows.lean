/-
  No cell of these rows narrows 'for every input' (looked for: loops, veiled, ifaces, maps, wideKeys, modest, calm, conditions, laid).
  DERIVED. THE GIVEN ROWS OF THIS SEAT. 6 by the template 'for every input the law returns true; each argument reads behind the call as it read before'; 0 by the template 'total and deterministic' (their statements: YtiopnefdfhdmoaaTotals.lean).
  GIVEN WITH THE SEED: the statements are not yours to turn. If you find one false, say at which input.
  Laid BY PROGRAM, IN A SANDBOX (cutbox-rows.mjs): the forced cells as the released guide's own fill.sh prints them over the translation 4c5f3990947eab22… (all of the seat's roots in one cut). By AI agents, Wed Nov 11 2026. No macro, syntax, notation, axiom, sorry.
-/
import Derived.Test.YtiopnefdfhdmoaaChecked
import GoSem.Claim
import GoSem.ClaimJoined
import GoSem.ClaimMapViews
import Derived.JoinedTies
import Derived.KernelRfl
namespace Go.Proofs.Ytiopnefdfhdmoaa
/- THE CELL 'sum', in the pinned program and in every row, IS THE sha256 OF THE DUMP (.gsa) THAT YtiopnefdfhdmoaaProg.lean LOADS. Nothing in Lean hashes anything: it is a label: what it is worth is what the hold of that sum in a sandbox is worth. -/
noncomputable def Try.pinned : Pinned := { name := "ytiopnefdfhdmoaa", sum := "4c5f3990947eab2297a437134fbf1b850184c7ca453bc257a69f3e758ce04439", checked := Try.checked }
namespace Rows
def none {H : Type} : Left H := { results := [], args := [] }

/-- 'laws.FnExactPartOf': WHATEVER THE INPUT: true; the input reads as it did. -/
def fnExactPartOfSpec : ChangeSpec := { name := "fnExactPartOf", fn := fun _ => fun
  | [d1, d2] => { results := [.lit (.bool true)], args := [d1, d2] }
  | _ => none }
def fnExactPartOfRow : OpenClaim := { program := "ytiopnefdfhdmoaa", sum := "4c5f3990947eab2297a437134fbf1b850184c7ca453bc257a69f3e758ce04439", func := "loop.example/switchpuzzles/laws.FnExactPartOf", spec := "fnExactPartOf", apart := false }
def FnExactPartOfSaid : Prop := fnExactPartOfRow.holds Try.pinned (OpenSpec.ofChange fnExactPartOfSpec)

/-- ITS FALSE NEIGHBOUR: 'it returns false'. Refute it at one input. -/
def fnExactPartOfWrong : ChangeSpec := { name := "fnExactPartOf", fn := fun _ => fun
  | [d1, d2] => { results := [.lit (.bool false)], args := [d1, d2] }
  | _ => none }
def FnExactPartOfWrongFalsely : Prop := fnExactPartOfRow.holds Try.pinned (OpenSpec.ofChange fnExactPartOfWrong)

/-- 'laws.FnExactWhole': WHATEVER THE INPUT: true; the input reads as it did. -/
def fnExactWholeSpec : ChangeSpec := { name := "fnExactWhole", fn := fun _ => fun
  | [d] => { results := [.lit (.bool true)], args := [d] }
  | _ => none }
def fnExactWholeRow : OpenClaim := { program := "ytiopnefdfhdmoaa", sum := "4c5f3990947eab2297a437134fbf1b850184c7ca453bc257a69f3e758ce04439", func := "loop.example/switchpuzzles/laws.FnExactWhole", spec := "fnExactWhole", apart := false }
def FnExactWholeSaid : Prop := fnExactWholeRow.holds Try.pinned (OpenSpec.ofChange fnExactWholeSpec)

/-- ITS FALSE NEIGHBOUR: 'it returns false'. Refute it at one input. -/
def fnExactWholeWrong : ChangeSpec := { name := "fnExactWhole", fn := fun _ => fun
  | [d] => { results := [.lit (.bool false)], args := [d] }
  | _ => none }
def FnExactWholeWrongFalsely : Prop := fnExactWholeRow.holds Try.pinned (OpenSpec.ofChange fnExactWholeWrong)

/-- 'laws.FnExactLineSet': WHATEVER THE INPUT: true; the input reads as it did. -/
def fnExactLineSetSpec : ChangeSpec := { name := "fnExactLineSet", fn := fun _ => fun
  | [d1, d2, d3, d4] => { results := [.lit (.bool true)], args := [d1, d2, d3, d4] }
  | _ => none }
def fnExactLineSetRow : OpenClaim := { program := "ytiopnefdfhdmoaa", sum := "4c5f3990947eab2297a437134fbf1b850184c7ca453bc257a69f3e758ce04439", func := "loop.example/switchpuzzles/laws.FnExactLineSet", spec := "fnExactLineSet", apart := false }
def FnExactLineSetSaid : Prop := fnExactLineSetRow.holds Try.pinned (OpenSpec.ofChange fnExactLineSetSpec)

/-- ITS FALSE NEIGHBOUR: 'it returns false'. Refute it at one input. -/
def fnExactLineSetWrong : ChangeSpec := { name := "fnExactLineSet", fn := fun _ => fun
  | [d1, d2, d3, d4] => { results := [.lit (.bool false)], args := [d1, d2, d3, d4] }
  | _ => none }
def FnExactLineSetWrongFalsely : Prop := fnExactLineSetRow.holds Try.pinned (OpenSpec.ofChange fnExactLineSetWrong)

/-- 'laws.FnExactTwoColours': WHATEVER THE INPUT: true; the input reads as it did. -/
def fnExactTwoColoursSpec : ChangeSpec := { name := "fnExactTwoColours", fn := fun _ => fun
  | [d] => { results := [.lit (.bool true)], args := [d] }
  | _ => none }
def fnExactTwoColoursRow : OpenClaim := { program := "ytiopnefdfhdmoaa", sum := "4c5f3990947eab2297a437134fbf1b850184c7ca453bc257a69f3e758ce04439", func := "loop.example/switchpuzzles/laws.FnExactTwoColours", spec := "fnExactTwoColours", apart := false }
def FnExactTwoColoursSaid : Prop := fnExactTwoColoursRow.holds Try.pinned (OpenSpec.ofChange fnExactTwoColoursSpec)

/-- ITS FALSE NEIGHBOUR: 'it returns false'. Refute it at one input. -/
def fnExactTwoColoursWrong : ChangeSpec := { name := "fnExactTwoColours", fn := fun _ => fun
  | [d] => { results := [.lit (.bool false)], args := [d] }
  | _ => none }
def FnExactTwoColoursWrongFalsely : Prop := fnExactTwoColoursRow.holds Try.pinned (OpenSpec.ofChange fnExactTwoColoursWrong)

/-- 'laws.FnExactPressDo': WHATEVER THE INPUT: true; the input reads as it did. -/
def fnExactPressDoSpec : ChangeSpec := { name := "fnExactPressDo", fn := fun _ => fun
  | [d1, d2, d3] => { results := [.lit (.bool true)], args := [d1, d2, d3] }
  | _ => none }
def fnExactPressDoRow : OpenClaim := { program := "ytiopnefdfhdmoaa", sum := "4c5f3990947eab2297a437134fbf1b850184c7ca453bc257a69f3e758ce04439", func := "loop.example/switchpuzzles/laws.FnExactPressDo", spec := "fnExactPressDo", apart := false }
def FnExactPressDoSaid : Prop := fnExactPressDoRow.holds Try.pinned (OpenSpec.ofChange fnExactPressDoSpec)

/-- ITS FALSE NEIGHBOUR: 'it returns false'. Refute it at one input. -/
def fnExactPressDoWrong : ChangeSpec := { name := "fnExactPressDo", fn := fun _ => fun
  | [d1, d2, d3] => { results := [.lit (.bool false)], args := [d1, d2, d3] }
  | _ => none }
def FnExactPressDoWrongFalsely : Prop := fnExactPressDoRow.holds Try.pinned (OpenSpec.ofChange fnExactPressDoWrong)

/-- 'laws.FnExactPressRun': WHATEVER THE INPUT: true; the input reads as it did. -/
def fnExactPressRunSpec : ChangeSpec := { name := "fnExactPressRun", fn := fun _ => fun
  | [d1, d2, d3] => { results := [.lit (.bool true)], args := [d1, d2, d3] }
  | _ => none }
def fnExactPressRunRow : OpenClaim := { program := "ytiopnefdfhdmoaa", sum := "4c5f3990947eab2297a437134fbf1b850184c7ca453bc257a69f3e758ce04439", func := "loop.example/switchpuzzles/laws.FnExactPressRun", spec := "fnExactPressRun", apart := false }
def FnExactPressRunSaid : Prop := fnExactPressRunRow.holds Try.pinned (OpenSpec.ofChange fnExactPressRunSpec)

/-- ITS FALSE NEIGHBOUR: 'it returns false'. Refute it at one input. -/
def fnExactPressRunWrong : ChangeSpec := { name := "fnExactPressRun", fn := fun _ => fun
  | [d1, d2, d3] => { results := [.lit (.bool false)], args := [d1, d2, d3] }
  | _ => none }
def FnExactPressRunWrongFalsely : Prop := fnExactPressRunRow.holds Try.pinned (OpenSpec.ofChange fnExactPressRunWrong)

/- THE SECOND FORM. 'bulk': how many values and letters a reading holds, each counted each time it is reached (what is shared counts as often as it is met; a slice's spare places count too). A statement '..UptoSaid' is the law's where the arguments, and the package variables that the reading takes, are together of bulk at most 1048576: NARROWER than '..Said'. Prove '..Said' where nothing that the law and all that it calls make is longer than what came in: it says more and counts as full. Else prove '..UptoSaid'. A law counts once. -/
mutual
def uptoBulk {H : Type} : DataW H → Nat
  | .lit (.string bytes) => bytes.length + 1
  | .lit _ => 1
  | .nil => 1
  | .ptr d => uptoBulk d + 1
  | .slice elems spare => uptoBulkAll elems + uptoBulkAll spare + 1
  | .agg parts => uptoBulkAll parts + 1
  | .iface _ d => uptoBulk d + 1
  | .map entries => uptoBulkEntries entries + 1
  | .held _ => 1
def uptoBulkAll {H : Type} : List (DataW H) → Nat
  | [] => 0
  | d :: r => uptoBulk d + uptoBulkAll r
def uptoBulkEntries {H : Type} : List (Lit × DataW H) → Nat
  | [] => 0
  | x :: r => uptoBulkEntry x + uptoBulkEntries r
def uptoBulkEntry {H : Type} : Lit × DataW H → Nat
  | (.string bytes, d) => bytes.length + uptoBulk d + 1
  | (_, d) => uptoBulk d + 1
 end
def uptoSmall : (H : Type) → List (DataW H) → Bool := fun _ ds => decide (uptoBulkAll ds ≤ 1048576)
def OpenSpec.upto (s : _root_.Go.ChangeSpec) : _root_.Go.OpenSpec := { _root_.Go.OpenSpec.ofChange s with cond := some uptoSmall }

/-- 'laws.FnExactPartOf', WHERE WHAT IT READS IS OF BULK AT MOST 1048576: true; the input reads as it did. -/
def fnExactPartOfUptoRow : OpenClaim := { program := "ytiopnefdfhdmoaa", sum := "4c5f3990947eab2297a437134fbf1b850184c7ca453bc257a69f3e758ce04439", func := "loop.example/switchpuzzles/laws.FnExactPartOf", spec := "fnExactPartOf", apart := false, narrowed := true }
def FnExactPartOfUptoSaid : Prop := fnExactPartOfUptoRow.holds Try.pinned (OpenSpec.upto fnExactPartOfSpec)

/-- 'laws.FnExactWhole', WHERE WHAT IT READS IS OF BULK AT MOST 1048576: true; the input reads as it did. -/
def fnExactWholeUptoRow : OpenClaim := { program := "ytiopnefdfhdmoaa", sum := "4c5f3990947eab2297a437134fbf1b850184c7ca453bc257a69f3e758ce04439", func := "loop.example/switchpuzzles/laws.FnExactWhole", spec := "fnExactWhole", apart := false, narrowed := true }
def FnExactWholeUptoSaid : Prop := fnExactWholeUptoRow.holds Try.pinned (OpenSpec.upto fnExactWholeSpec)

/-- 'laws.FnExactLineSet', WHERE WHAT IT READS IS OF BULK AT MOST 1048576: true; the input reads as it did. -/
def fnExactLineSetUptoRow : OpenClaim := { program := "ytiopnefdfhdmoaa", sum := "4c5f3990947eab2297a437134fbf1b850184c7ca453bc257a69f3e758ce04439", func := "loop.example/switchpuzzles/laws.FnExactLineSet", spec := "fnExactLineSet", apart := false, narrowed := true }
def FnExactLineSetUptoSaid : Prop := fnExactLineSetUptoRow.holds Try.pinned (OpenSpec.upto fnExactLineSetSpec)

/-- 'laws.FnExactTwoColours', WHERE WHAT IT READS IS OF BULK AT MOST 1048576: true; the input reads as it did. -/
def fnExactTwoColoursUptoRow : OpenClaim := { program := "ytiopnefdfhdmoaa", sum := "4c5f3990947eab2297a437134fbf1b850184c7ca453bc257a69f3e758ce04439", func := "loop.example/switchpuzzles/laws.FnExactTwoColours", spec := "fnExactTwoColours", apart := false, narrowed := true }
def FnExactTwoColoursUptoSaid : Prop := fnExactTwoColoursUptoRow.holds Try.pinned (OpenSpec.upto fnExactTwoColoursSpec)

/-- 'laws.FnExactPressDo', WHERE WHAT IT READS IS OF BULK AT MOST 1048576: true; the input reads as it did. -/
def fnExactPressDoUptoRow : OpenClaim := { program := "ytiopnefdfhdmoaa", sum := "4c5f3990947eab2297a437134fbf1b850184c7ca453bc257a69f3e758ce04439", func := "loop.example/switchpuzzles/laws.FnExactPressDo", spec := "fnExactPressDo", apart := false, narrowed := true }
def FnExactPressDoUptoSaid : Prop := fnExactPressDoUptoRow.holds Try.pinned (OpenSpec.upto fnExactPressDoSpec)

/-- 'laws.FnExactPressRun', WHERE WHAT IT READS IS OF BULK AT MOST 1048576: true; the input reads as it did. -/
def fnExactPressRunUptoRow : OpenClaim := { program := "ytiopnefdfhdmoaa", sum := "4c5f3990947eab2297a437134fbf1b850184c7ca453bc257a69f3e758ce04439", func := "loop.example/switchpuzzles/laws.FnExactPressRun", spec := "fnExactPressRun", apart := false, narrowed := true }
def FnExactPressRunUptoSaid : Prop := fnExactPressRunUptoRow.holds Try.pinned (OpenSpec.upto fnExactPressRunSpec)

end Rows
end Go.Proofs.Ytiopnefdfhdmoaa
