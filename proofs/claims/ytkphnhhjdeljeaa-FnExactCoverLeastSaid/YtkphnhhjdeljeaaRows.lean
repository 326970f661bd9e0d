/-
  No cell of these rows narrows 'for every input' (looked for: loops, veiled, ifaces, maps, wideKeys, modest, calm, conditions, laid).
  DERIVED. THE GIVEN ROWS OF THIS SEAT. 6 by the template 'for every input the law returns true; each argument reads behind the call as it read before'; 0 by the template 'total and deterministic' (their statements: YtkphnhhjdeljeaaTotals.lean).
  GIVEN WITH THE SEED: the statements are not yours to turn. If you find one false, say at which input.
  Laid BY PROGRAM, IN A SANDBOX (cutbox-rows.mjs): the forced cells as the released guide's own fill.sh prints them over the translation 742d6ac9613faa7f… (all of the seat's roots in one cut). By AI agents, Wed Nov 11 2026. No macro, syntax, notation, axiom, sorry.
-/
import Derived.Test.YtkphnhhjdeljeaaChecked
import GoSem.Claim
import GoSem.ClaimJoined
import GoSem.ClaimMapViews
import Derived.JoinedTies
import Derived.KernelRfl
namespace Go.Proofs.Ytkphnhhjdeljeaa
/- THE CELL 'sum', in the pinned program and in every row, IS THE sha256 OF THE DUMP (.gsa) THAT YtkphnhhjdeljeaaProg.lean LOADS. Nothing in Lean hashes anything: it is a label: what it is worth is what the hold of that sum in a sandbox is worth. -/
noncomputable def Try.pinned : Pinned := { name := "ytkphnhhjdeljeaa", sum := "742d6ac9613faa7f767f76ec11f4192e3dab8acc304544f2db44b40b92a4f978", checked := Try.checked }
namespace Rows
def none {H : Type} : Left H := { results := [], args := [] }

/-- 'laws.FnExactSetMany': WHATEVER THE INPUT: true; the input reads as it did. -/
def fnExactSetManySpec : ChangeSpec := { name := "fnExactSetMany", fn := fun _ => fun
  | [d1, d2] => { results := [.lit (.bool true)], args := [d1, d2] }
  | _ => none }
def fnExactSetManyRow : OpenClaim := { program := "ytkphnhhjdeljeaa", sum := "742d6ac9613faa7f767f76ec11f4192e3dab8acc304544f2db44b40b92a4f978", func := "loop.example/switchpuzzles/laws.FnExactSetMany", spec := "fnExactSetMany", apart := false }
def FnExactSetManySaid : Prop := fnExactSetManyRow.holds Try.pinned (OpenSpec.ofChange fnExactSetManySpec)

/-- ITS FALSE NEIGHBOUR: 'it returns false'. Refute it at one input. -/
def fnExactSetManyWrong : ChangeSpec := { name := "fnExactSetMany", fn := fun _ => fun
  | [d1, d2] => { results := [.lit (.bool false)], args := [d1, d2] }
  | _ => none }
def FnExactSetManyWrongFalsely : Prop := fnExactSetManyRow.holds Try.pinned (OpenSpec.ofChange fnExactSetManyWrong)

/-- 'laws.FnExactLinesMany': WHATEVER THE INPUT: true; the input reads as it did. -/
def fnExactLinesManySpec : ChangeSpec := { name := "fnExactLinesMany", fn := fun _ => fun
  | [d] => { results := [.lit (.bool true)], args := [d] }
  | _ => none }
def fnExactLinesManyRow : OpenClaim := { program := "ytkphnhhjdeljeaa", sum := "742d6ac9613faa7f767f76ec11f4192e3dab8acc304544f2db44b40b92a4f978", func := "loop.example/switchpuzzles/laws.FnExactLinesMany", spec := "fnExactLinesMany", apart := false }
def FnExactLinesManySaid : Prop := fnExactLinesManyRow.holds Try.pinned (OpenSpec.ofChange fnExactLinesManySpec)

/-- ITS FALSE NEIGHBOUR: 'it returns false'. Refute it at one input. -/
def fnExactLinesManyWrong : ChangeSpec := { name := "fnExactLinesMany", fn := fun _ => fun
  | [d] => { results := [.lit (.bool false)], args := [d] }
  | _ => none }
def FnExactLinesManyWrongFalsely : Prop := fnExactLinesManyRow.holds Try.pinned (OpenSpec.ofChange fnExactLinesManyWrong)

/-- 'laws.FnExactBesideSet': WHATEVER THE INPUT: true; the input reads as it did. -/
def fnExactBesideSetSpec : ChangeSpec := { name := "fnExactBesideSet", fn := fun _ => fun
  | [d1, d2] => { results := [.lit (.bool true)], args := [d1, d2] }
  | _ => none }
def fnExactBesideSetRow : OpenClaim := { program := "ytkphnhhjdeljeaa", sum := "742d6ac9613faa7f767f76ec11f4192e3dab8acc304544f2db44b40b92a4f978", func := "loop.example/switchpuzzles/laws.FnExactBesideSet", spec := "fnExactBesideSet", apart := false }
def FnExactBesideSetSaid : Prop := fnExactBesideSetRow.holds Try.pinned (OpenSpec.ofChange fnExactBesideSetSpec)

/-- ITS FALSE NEIGHBOUR: 'it returns false'. Refute it at one input. -/
def fnExactBesideSetWrong : ChangeSpec := { name := "fnExactBesideSet", fn := fun _ => fun
  | [d1, d2] => { results := [.lit (.bool false)], args := [d1, d2] }
  | _ => none }
def FnExactBesideSetWrongFalsely : Prop := fnExactBesideSetRow.holds Try.pinned (OpenSpec.ofChange fnExactBesideSetWrong)

/-- 'laws.FnExactAlone': WHATEVER THE INPUT: true; the input reads as it did. -/
def fnExactAloneSpec : ChangeSpec := { name := "fnExactAlone", fn := fun _ => fun
  | [d1, d2] => { results := [.lit (.bool true)], args := [d1, d2] }
  | _ => none }
def fnExactAloneRow : OpenClaim := { program := "ytkphnhhjdeljeaa", sum := "742d6ac9613faa7f767f76ec11f4192e3dab8acc304544f2db44b40b92a4f978", func := "loop.example/switchpuzzles/laws.FnExactAlone", spec := "fnExactAlone", apart := false }
def FnExactAloneSaid : Prop := fnExactAloneRow.holds Try.pinned (OpenSpec.ofChange fnExactAloneSpec)

/-- ITS FALSE NEIGHBOUR: 'it returns false'. Refute it at one input. -/
def fnExactAloneWrong : ChangeSpec := { name := "fnExactAlone", fn := fun _ => fun
  | [d1, d2] => { results := [.lit (.bool false)], args := [d1, d2] }
  | _ => none }
def FnExactAloneWrongFalsely : Prop := fnExactAloneRow.holds Try.pinned (OpenSpec.ofChange fnExactAloneWrong)

/-- 'laws.FnExactAloneMost': WHATEVER THE INPUT: true; the input reads as it did. -/
def fnExactAloneMostSpec : ChangeSpec := { name := "fnExactAloneMost", fn := fun _ => fun
  | [d] => { results := [.lit (.bool true)], args := [d] }
  | _ => none }
def fnExactAloneMostRow : OpenClaim := { program := "ytkphnhhjdeljeaa", sum := "742d6ac9613faa7f767f76ec11f4192e3dab8acc304544f2db44b40b92a4f978", func := "loop.example/switchpuzzles/laws.FnExactAloneMost", spec := "fnExactAloneMost", apart := false }
def FnExactAloneMostSaid : Prop := fnExactAloneMostRow.holds Try.pinned (OpenSpec.ofChange fnExactAloneMostSpec)

/-- ITS FALSE NEIGHBOUR: 'it returns false'. Refute it at one input. -/
def fnExactAloneMostWrong : ChangeSpec := { name := "fnExactAloneMost", fn := fun _ => fun
  | [d] => { results := [.lit (.bool false)], args := [d] }
  | _ => none }
def FnExactAloneMostWrongFalsely : Prop := fnExactAloneMostRow.holds Try.pinned (OpenSpec.ofChange fnExactAloneMostWrong)

/-- 'laws.FnExactCoverLeast': WHATEVER THE INPUT: true; the input reads as it did. -/
def fnExactCoverLeastSpec : ChangeSpec := { name := "fnExactCoverLeast", fn := fun _ => fun
  | [d] => { results := [.lit (.bool true)], args := [d] }
  | _ => none }
def fnExactCoverLeastRow : OpenClaim := { program := "ytkphnhhjdeljeaa", sum := "742d6ac9613faa7f767f76ec11f4192e3dab8acc304544f2db44b40b92a4f978", func := "loop.example/switchpuzzles/laws.FnExactCoverLeast", spec := "fnExactCoverLeast", apart := false }
def FnExactCoverLeastSaid : Prop := fnExactCoverLeastRow.holds Try.pinned (OpenSpec.ofChange fnExactCoverLeastSpec)

/-- ITS FALSE NEIGHBOUR: 'it returns false'. Refute it at one input. -/
def fnExactCoverLeastWrong : ChangeSpec := { name := "fnExactCoverLeast", fn := fun _ => fun
  | [d] => { results := [.lit (.bool false)], args := [d] }
  | _ => none }
def FnExactCoverLeastWrongFalsely : Prop := fnExactCoverLeastRow.holds Try.pinned (OpenSpec.ofChange fnExactCoverLeastWrong)

/- THE SECOND FORM. 'bulk': how many values and letters a reading holds, each counted each time it is reached (what is shared counts as often as it is met; a slice's spare places count too). A statement '..UptoSaid' is the law's where the arguments, and the package variables that the reading takes, are together of bulk at most 1048576: NARROWER than '..Said'. Prove '..Said' where nothing that the law and all that it calls make is longer than what came in: it says more and counts as full. Else prove '..UptoSaid'. A law counts once. -/
mutual
def uptoBulk {H : Type} : DataW H → Nat
  | .lit (.string bytes) => bytes.length + 1
  | .lit _ => 1
  | .nil => 1
  | .ptr d => uptoBulk d + 1
  | .slice elems spare => uptoBulkAll elems + uptoBulkAll spare + 1
  | .agg parts => uptoBulkAll parts + 1
  | .iface _ d => uptoBulk d + 1
  | .map entries => uptoBulkEntries entries + 1
  | .held _ => 1
def uptoBulkAll {H : Type} : List (DataW H) → Nat
  | [] => 0
  | d :: r => uptoBulk d + uptoBulkAll r
def uptoBulkEntries {H : Type} : List (Lit × DataW H) → Nat
  | [] => 0
  | x :: r => uptoBulkEntry x + uptoBulkEntries r
def uptoBulkEntry {H : Type} : Lit × DataW H → Nat
  | (.string bytes, d) => bytes.length + uptoBulk d + 1
  | (_, d) => uptoBulk d + 1
 end
def uptoSmall : (H : Type) → List (DataW H) → Bool := fun _ ds => decide (uptoBulkAll ds ≤ 1048576)
def OpenSpec.upto (s : _root_.Go.ChangeSpec) : _root_.Go.OpenSpec := { _root_.Go.OpenSpec.ofChange s with cond := some uptoSmall }

/-- 'laws.FnExactSetMany', WHERE WHAT IT READS IS OF BULK AT MOST 1048576: true; the input reads as it did. -/
def fnExactSetManyUptoRow : OpenClaim := { program := "ytkphnhhjdeljeaa", sum := "742d6ac9613faa7f767f76ec11f4192e3dab8acc304544f2db44b40b92a4f978", func := "loop.example/switchpuzzles/laws.FnExactSetMany", spec := "fnExactSetMany", apart := false, narrowed := true }
def FnExactSetManyUptoSaid : Prop := fnExactSetManyUptoRow.holds Try.pinned (OpenSpec.upto fnExactSetManySpec)

/-- 'laws.FnExactLinesMany', WHERE WHAT IT READS IS OF BULK AT MOST 1048576: true; the input reads as it did. -/
def fnExactLinesManyUptoRow : OpenClaim := { program := "ytkphnhhjdeljeaa", sum := "742d6ac9613faa7f767f76ec11f4192e3dab8acc304544f2db44b40b92a4f978", func := "loop.example/switchpuzzles/laws.FnExactLinesMany", spec := "fnExactLinesMany", apart := false, narrowed := true }
def FnExactLinesManyUptoSaid : Prop := fnExactLinesManyUptoRow.holds Try.pinned (OpenSpec.upto fnExactLinesManySpec)

/-- 'laws.FnExactBesideSet', WHERE WHAT IT READS IS OF BULK AT MOST 1048576: true; the input reads as it did. -/
def fnExactBesideSetUptoRow : OpenClaim := { program := "ytkphnhhjdeljeaa", sum := "742d6ac9613faa7f767f76ec11f4192e3dab8acc304544f2db44b40b92a4f978", func := "loop.example/switchpuzzles/laws.FnExactBesideSet", spec := "fnExactBesideSet", apart := false, narrowed := true }
def FnExactBesideSetUptoSaid : Prop := fnExactBesideSetUptoRow.holds Try.pinned (OpenSpec.upto fnExactBesideSetSpec)

/-- 'laws.FnExactAlone', WHERE WHAT IT READS IS OF BULK AT MOST 1048576: true; the input reads as it did. -/
def fnExactAloneUptoRow : OpenClaim := { program := "ytkphnhhjdeljeaa", sum := "742d6ac9613faa7f767f76ec11f4192e3dab8acc304544f2db44b40b92a4f978", func := "loop.example/switchpuzzles/laws.FnExactAlone", spec := "fnExactAlone", apart := false, narrowed := true }
def FnExactAloneUptoSaid : Prop := fnExactAloneUptoRow.holds Try.pinned (OpenSpec.upto fnExactAloneSpec)

/-- 'laws.FnExactAloneMost', WHERE WHAT IT READS IS OF BULK AT MOST 1048576: true; the input reads as it did. -/
def fnExactAloneMostUptoRow : OpenClaim := { program := "ytkphnhhjdeljeaa", sum := "742d6ac9613faa7f767f76ec11f4192e3dab8acc304544f2db44b40b92a4f978", func := "loop.example/switchpuzzles/laws.FnExactAloneMost", spec := "fnExactAloneMost", apart := false, narrowed := true }
def FnExactAloneMostUptoSaid : Prop := fnExactAloneMostUptoRow.holds Try.pinned (OpenSpec.upto fnExactAloneMostSpec)

/-- 'laws.FnExactCoverLeast', WHERE WHAT IT READS IS OF BULK AT MOST 1048576: true; the input reads as it did. -/
def fnExactCoverLeastUptoRow : OpenClaim := { program := "ytkphnhhjdeljeaa", sum := "742d6ac9613faa7f767f76ec11f4192e3dab8acc304544f2db44b40b92a4f978", func := "loop.example/switchpuzzles/laws.FnExactCoverLeast", spec := "fnExactCoverLeast", apart := false, narrowed := true }
def FnExactCoverLeastUptoSaid : Prop := fnExactCoverLeastUptoRow.holds Try.pinned (OpenSpec.upto fnExactCoverLeastSpec)

end Rows
end Go.Proofs.Ytkphnhhjdeljeaa
