/-
  No cell of these rows narrows 'for every input' (looked for: loops, veiled, ifaces, maps, wideKeys, modest, calm, conditions, laid).
  DERIVED. THE GIVEN ROWS OF THIS SEAT. 6 by the template 'for every input the law returns true; each argument reads behind the call as it read before'; 0 by the template 'total and deterministic' (their statements: YtlfigdpgdkbknaaTotals.lean).
  GIVEN WITH THE SEED: the statements are not yours to turn. If you find one false, say at which input.
  Laid BY PROGRAM, IN A SANDBOX (cutbox-rows.mjs): the forced cells as the released guide's own fill.sh prints them over the translation 0675620401dce332… (all of the seat's roots in one cut). By AI agents, Wed Nov 11 2026. No macro, syntax, notation, axiom, sorry.
-/
import Derived.Test.YtlfigdpgdkbknaaChecked
import GoSem.Claim
import GoSem.ClaimJoined
import GoSem.ClaimMapViews
import Derived.JoinedTies
import Derived.KernelRfl
namespace Go.Proofs.Ytlfigdpgdkbknaa
/- THE CELL 'sum', in the pinned program and in every row, IS THE sha256 OF THE DUMP (.gsa) THAT YtlfigdpgdkbknaaProg.lean LOADS. Nothing in Lean hashes anything: it is a label: what it is worth is what the hold of that sum in a sandbox is worth. -/
noncomputable def Try.pinned : Pinned := { name := "ytlfigdpgdkbknaa", sum := "0675620401dce3326672be6883499a6a6eea2d286b47de55feaf3750452ba9a8", checked := Try.checked }
namespace Rows
def none {H : Type} : Left H := { results := [], args := [] }

/-- 'laws.FnPartOf': WHATEVER THE INPUT: true; the input reads as it did. -/
def fnPartOfSpec : ChangeSpec := { name := "fnPartOf", fn := fun _ => fun
  | [d] => { results := [.lit (.bool true)], args := [d] }
  | _ => none }
def fnPartOfRow : OpenClaim := { program := "ytlfigdpgdkbknaa", sum := "0675620401dce3326672be6883499a6a6eea2d286b47de55feaf3750452ba9a8", func := "loop.example/switchpuzzles/laws.FnPartOf", spec := "fnPartOf", apart := false }
def FnPartOfSaid : Prop := fnPartOfRow.holds Try.pinned (OpenSpec.ofChange fnPartOfSpec)

/-- ITS FALSE NEIGHBOUR: 'it returns false'. Refute it at one input. -/
def fnPartOfWrong : ChangeSpec := { name := "fnPartOf", fn := fun _ => fun
  | [d] => { results := [.lit (.bool false)], args := [d] }
  | _ => none }
def FnPartOfWrongFalsely : Prop := fnPartOfRow.holds Try.pinned (OpenSpec.ofChange fnPartOfWrong)

/-- 'laws.FnWhole': WHATEVER THE INPUT: true; the input reads as it did. -/
def fnWholeSpec : ChangeSpec := { name := "fnWhole", fn := fun _ => fun
  | [d] => { results := [.lit (.bool true)], args := [d] }
  | _ => none }
def fnWholeRow : OpenClaim := { program := "ytlfigdpgdkbknaa", sum := "0675620401dce3326672be6883499a6a6eea2d286b47de55feaf3750452ba9a8", func := "loop.example/switchpuzzles/laws.FnWhole", spec := "fnWhole", apart := false }
def FnWholeSaid : Prop := fnWholeRow.holds Try.pinned (OpenSpec.ofChange fnWholeSpec)

/-- ITS FALSE NEIGHBOUR: 'it returns false'. Refute it at one input. -/
def fnWholeWrong : ChangeSpec := { name := "fnWhole", fn := fun _ => fun
  | [d] => { results := [.lit (.bool false)], args := [d] }
  | _ => none }
def FnWholeWrongFalsely : Prop := fnWholeRow.holds Try.pinned (OpenSpec.ofChange fnWholeWrong)

/-- 'laws.FnAlone': WHATEVER THE INPUT: true; the input reads as it did. -/
def fnAloneSpec : ChangeSpec := { name := "fnAlone", fn := fun _ => fun
  | [d] => { results := [.lit (.bool true)], args := [d] }
  | _ => none }
def fnAloneRow : OpenClaim := { program := "ytlfigdpgdkbknaa", sum := "0675620401dce3326672be6883499a6a6eea2d286b47de55feaf3750452ba9a8", func := "loop.example/switchpuzzles/laws.FnAlone", spec := "fnAlone", apart := false }
def FnAloneSaid : Prop := fnAloneRow.holds Try.pinned (OpenSpec.ofChange fnAloneSpec)

/-- ITS FALSE NEIGHBOUR: 'it returns false'. Refute it at one input. -/
def fnAloneWrong : ChangeSpec := { name := "fnAlone", fn := fun _ => fun
  | [d] => { results := [.lit (.bool false)], args := [d] }
  | _ => none }
def FnAloneWrongFalsely : Prop := fnAloneRow.holds Try.pinned (OpenSpec.ofChange fnAloneWrong)

/-- 'laws.FnAloneMost': WHATEVER THE INPUT: true; the input reads as it did. -/
def fnAloneMostSpec : ChangeSpec := { name := "fnAloneMost", fn := fun _ => fun
  | [d] => { results := [.lit (.bool true)], args := [d] }
  | _ => none }
def fnAloneMostRow : OpenClaim := { program := "ytlfigdpgdkbknaa", sum := "0675620401dce3326672be6883499a6a6eea2d286b47de55feaf3750452ba9a8", func := "loop.example/switchpuzzles/laws.FnAloneMost", spec := "fnAloneMost", apart := false }
def FnAloneMostSaid : Prop := fnAloneMostRow.holds Try.pinned (OpenSpec.ofChange fnAloneMostSpec)

/-- ITS FALSE NEIGHBOUR: 'it returns false'. Refute it at one input. -/
def fnAloneMostWrong : ChangeSpec := { name := "fnAloneMost", fn := fun _ => fun
  | [d] => { results := [.lit (.bool false)], args := [d] }
  | _ => none }
def FnAloneMostWrongFalsely : Prop := fnAloneMostRow.holds Try.pinned (OpenSpec.ofChange fnAloneMostWrong)

/-- 'laws.FnCoverLeast': WHATEVER THE INPUT: true; the input reads as it did. -/
def fnCoverLeastSpec : ChangeSpec := { name := "fnCoverLeast", fn := fun _ => fun
  | [d] => { results := [.lit (.bool true)], args := [d] }
  | _ => none }
def fnCoverLeastRow : OpenClaim := { program := "ytlfigdpgdkbknaa", sum := "0675620401dce3326672be6883499a6a6eea2d286b47de55feaf3750452ba9a8", func := "loop.example/switchpuzzles/laws.FnCoverLeast", spec := "fnCoverLeast", apart := false }
def FnCoverLeastSaid : Prop := fnCoverLeastRow.holds Try.pinned (OpenSpec.ofChange fnCoverLeastSpec)

/-- ITS FALSE NEIGHBOUR: 'it returns false'. Refute it at one input. -/
def fnCoverLeastWrong : ChangeSpec := { name := "fnCoverLeast", fn := fun _ => fun
  | [d] => { results := [.lit (.bool false)], args := [d] }
  | _ => none }
def FnCoverLeastWrongFalsely : Prop := fnCoverLeastRow.holds Try.pinned (OpenSpec.ofChange fnCoverLeastWrong)

/-- 'laws.FnTwoColours': WHATEVER THE INPUT: true; the input reads as it did. -/
def fnTwoColoursSpec : ChangeSpec := { name := "fnTwoColours", fn := fun _ => fun
  | [d] => { results := [.lit (.bool true)], args := [d] }
  | _ => none }
def fnTwoColoursRow : OpenClaim := { program := "ytlfigdpgdkbknaa", sum := "0675620401dce3326672be6883499a6a6eea2d286b47de55feaf3750452ba9a8", func := "loop.example/switchpuzzles/laws.FnTwoColours", spec := "fnTwoColours", apart := false }
def FnTwoColoursSaid : Prop := fnTwoColoursRow.holds Try.pinned (OpenSpec.ofChange fnTwoColoursSpec)

/-- ITS FALSE NEIGHBOUR: 'it returns false'. Refute it at one input. -/
def fnTwoColoursWrong : ChangeSpec := { name := "fnTwoColours", fn := fun _ => fun
  | [d] => { results := [.lit (.bool false)], args := [d] }
  | _ => none }
def FnTwoColoursWrongFalsely : Prop := fnTwoColoursRow.holds Try.pinned (OpenSpec.ofChange fnTwoColoursWrong)

/- THE SECOND FORM. 'bulk': how many values and letters a reading holds, each counted each time it is reached (what is shared counts as often as it is met; a slice's spare places count too). A statement '..UptoSaid' is the law's where the arguments, and the package variables that the reading takes, are together of bulk at most 1048576: NARROWER than '..Said'. Prove '..Said' where nothing that the law and all that it calls make is longer than what came in: it says more and counts as full. Else prove '..UptoSaid'. A law counts once. -/
mutual
def uptoBulk {H : Type} : DataW H → Nat
  | .lit (.string bytes) => bytes.length + 1
  | .lit _ => 1
  | .nil => 1
  | .ptr d => uptoBulk d + 1
  | .slice elems spare => uptoBulkAll elems + uptoBulkAll spare + 1
  | .agg parts => uptoBulkAll parts + 1
  | .iface _ d => uptoBulk d + 1
  | .map entries => uptoBulkEntries entries + 1
  | .held _ => 1
def uptoBulkAll {H : Type} : List (DataW H) → Nat
  | [] => 0
  | d :: r => uptoBulk d + uptoBulkAll r
def uptoBulkEntries {H : Type} : List (Lit × DataW H) → Nat
  | [] => 0
  | x :: r => uptoBulkEntry x + uptoBulkEntries r
def uptoBulkEntry {H : Type} : Lit × DataW H → Nat
  | (.string bytes, d) => bytes.length + uptoBulk d + 1
  | (_, d) => uptoBulk d + 1
 end
def uptoSmall : (H : Type) → List (DataW H) → Bool := fun _ ds => decide (uptoBulkAll ds ≤ 1048576)
def OpenSpec.upto (s : _root_.Go.ChangeSpec) : _root_.Go.OpenSpec := { _root_.Go.OpenSpec.ofChange s with cond := some uptoSmall }

/-- 'laws.FnPartOf', WHERE WHAT IT READS IS OF BULK AT MOST 1048576: true; the input reads as it did. -/
def fnPartOfUptoRow : OpenClaim := { program := "ytlfigdpgdkbknaa", sum := "0675620401dce3326672be6883499a6a6eea2d286b47de55feaf3750452ba9a8", func := "loop.example/switchpuzzles/laws.FnPartOf", spec := "fnPartOf", apart := false, narrowed := true }
def FnPartOfUptoSaid : Prop := fnPartOfUptoRow.holds Try.pinned (OpenSpec.upto fnPartOfSpec)

/-- 'laws.FnWhole', WHERE WHAT IT READS IS OF BULK AT MOST 1048576: true; the input reads as it did. -/
def fnWholeUptoRow : OpenClaim := { program := "ytlfigdpgdkbknaa", sum := "0675620401dce3326672be6883499a6a6eea2d286b47de55feaf3750452ba9a8", func := "loop.example/switchpuzzles/laws.FnWhole", spec := "fnWhole", apart := false, narrowed := true }
def FnWholeUptoSaid : Prop := fnWholeUptoRow.holds Try.pinned (OpenSpec.upto fnWholeSpec)

/-- 'laws.FnAlone', WHERE WHAT IT READS IS OF BULK AT MOST 1048576: true; the input reads as it did. -/
def fnAloneUptoRow : OpenClaim := { program := "ytlfigdpgdkbknaa", sum := "0675620401dce3326672be6883499a6a6eea2d286b47de55feaf3750452ba9a8", func := "loop.example/switchpuzzles/laws.FnAlone", spec := "fnAlone", apart := false, narrowed := true }
def FnAloneUptoSaid : Prop := fnAloneUptoRow.holds Try.pinned (OpenSpec.upto fnAloneSpec)

/-- 'laws.FnAloneMost', WHERE WHAT IT READS IS OF BULK AT MOST 1048576: true; the input reads as it did. -/
def fnAloneMostUptoRow : OpenClaim := { program := "ytlfigdpgdkbknaa", sum := "0675620401dce3326672be6883499a6a6eea2d286b47de55feaf3750452ba9a8", func := "loop.example/switchpuzzles/laws.FnAloneMost", spec := "fnAloneMost", apart := false, narrowed := true }
def FnAloneMostUptoSaid : Prop := fnAloneMostUptoRow.holds Try.pinned (OpenSpec.upto fnAloneMostSpec)

/-- 'laws.FnCoverLeast', WHERE WHAT IT READS IS OF BULK AT MOST 1048576: true; the input reads as it did. -/
def fnCoverLeastUptoRow : OpenClaim := { program := "ytlfigdpgdkbknaa", sum := "0675620401dce3326672be6883499a6a6eea2d286b47de55feaf3750452ba9a8", func := "loop.example/switchpuzzles/laws.FnCoverLeast", spec := "fnCoverLeast", apart := false, narrowed := true }
def FnCoverLeastUptoSaid : Prop := fnCoverLeastUptoRow.holds Try.pinned (OpenSpec.upto fnCoverLeastSpec)

/-- 'laws.FnTwoColours', WHERE WHAT IT READS IS OF BULK AT MOST 1048576: true; the input reads as it did. -/
def fnTwoColoursUptoRow : OpenClaim := { program := "ytlfigdpgdkbknaa", sum := "0675620401dce3326672be6883499a6a6eea2d286b47de55feaf3750452ba9a8", func := "loop.example/switchpuzzles/laws.FnTwoColours", spec := "fnTwoColours", apart := false, narrowed := true }
def FnTwoColoursUptoSaid : Prop := fnTwoColoursUptoRow.holds Try.pinned (OpenSpec.upto fnTwoColoursSpec)

end Rows
end Go.Proofs.Ytlfigdpgdkbknaa
