/-
  No cell of these rows narrows 'for every input' (looked for: loops, veiled, ifaces, maps, wideKeys, modest, calm, conditions, laid).
  DERIVED. THE GIVEN ROWS OF THIS SEAT. 6 by the template 'for every input the law returns true; each argument reads behind the call as it read before'; 0 by the template 'total and deterministic' (their statements: YtkehjajhocddoaaTotals.lean).
  GIVEN WITH THE SEED: the statements are not yours to turn. If you find one false, say at which input.
  Laid BY PROGRAM, IN A SANDBOX (cutbox-rows.mjs): the forced cells as the released guide's own fill.sh prints them over the translation 6d4ca794d29ef4fc… (all of the seat's roots in one cut). By AI agents, Wed Nov 11 2026. No macro, syntax, notation, axiom, sorry.
-/
import Derived.Test.YtkehjajhocddoaaChecked
import GoSem.Claim
import GoSem.ClaimJoined
import GoSem.ClaimMapViews
import Derived.JoinedTies
import Derived.KernelRfl
namespace Go.Proofs.Ytkehjajhocddoaa
/- THE CELL 'sum', in the pinned program and in every row, IS THE sha256 OF THE DUMP (.gsa) THAT YtkehjajhocddoaaProg.lean LOADS. Nothing in Lean hashes anything: it is a label: what it is worth is what the hold of that sum in a sandbox is worth. -/
noncomputable def Try.pinned : Pinned := { name := "ytkehjajhocddoaa", sum := "6d4ca794d29ef4fcae376b728604a50a30816e8e036cf7a797aacdceb71bc256", checked := Try.checked }
namespace Rows
def none {H : Type} : Left H := { results := [], args := [] }

/-- 'laws.FnExactPressSet': WHATEVER THE INPUT: true; the input reads as it did. -/
def fnExactPressSetSpec : ChangeSpec := { name := "fnExactPressSet", fn := fun _ => fun
  | [d1, d2] => { results := [.lit (.bool true)], args := [d1, d2] }
  | _ => none }
def fnExactPressSetRow : OpenClaim := { program := "ytkehjajhocddoaa", sum := "6d4ca794d29ef4fcae376b728604a50a30816e8e036cf7a797aacdceb71bc256", func := "loop.example/switchpuzzles/laws.FnExactPressSet", spec := "fnExactPressSet", apart := false }
def FnExactPressSetSaid : Prop := fnExactPressSetRow.holds Try.pinned (OpenSpec.ofChange fnExactPressSetSpec)

/-- ITS FALSE NEIGHBOUR: 'it returns false'. Refute it at one input. -/
def fnExactPressSetWrong : ChangeSpec := { name := "fnExactPressSet", fn := fun _ => fun
  | [d1, d2] => { results := [.lit (.bool false)], args := [d1, d2] }
  | _ => none }
def FnExactPressSetWrongFalsely : Prop := fnExactPressSetRow.holds Try.pinned (OpenSpec.ofChange fnExactPressSetWrong)

/-- 'laws.FnExactQuiet': WHATEVER THE INPUT: true; the input reads as it did. -/
def fnExactQuietSpec : ChangeSpec := { name := "fnExactQuiet", fn := fun _ => fun
  | [d1, d2] => { results := [.lit (.bool true)], args := [d1, d2] }
  | _ => none }
def fnExactQuietRow : OpenClaim := { program := "ytkehjajhocddoaa", sum := "6d4ca794d29ef4fcae376b728604a50a30816e8e036cf7a797aacdceb71bc256", func := "loop.example/switchpuzzles/laws.FnExactQuiet", spec := "fnExactQuiet", apart := false }
def FnExactQuietSaid : Prop := fnExactQuietRow.holds Try.pinned (OpenSpec.ofChange fnExactQuietSpec)

/-- ITS FALSE NEIGHBOUR: 'it returns false'. Refute it at one input. -/
def fnExactQuietWrong : ChangeSpec := { name := "fnExactQuiet", fn := fun _ => fun
  | [d1, d2] => { results := [.lit (.bool false)], args := [d1, d2] }
  | _ => none }
def FnExactQuietWrongFalsely : Prop := fnExactQuietRow.holds Try.pinned (OpenSpec.ofChange fnExactQuietWrong)

/-- 'laws.FnExactQuietSets': WHATEVER THE INPUT: true; the input reads as it did. -/
def fnExactQuietSetsSpec : ChangeSpec := { name := "fnExactQuietSets", fn := fun _ => fun
  | [d] => { results := [.lit (.bool true)], args := [d] }
  | _ => none }
def fnExactQuietSetsRow : OpenClaim := { program := "ytkehjajhocddoaa", sum := "6d4ca794d29ef4fcae376b728604a50a30816e8e036cf7a797aacdceb71bc256", func := "loop.example/switchpuzzles/laws.FnExactQuietSets", spec := "fnExactQuietSets", apart := false }
def FnExactQuietSetsSaid : Prop := fnExactQuietSetsRow.holds Try.pinned (OpenSpec.ofChange fnExactQuietSetsSpec)

/-- ITS FALSE NEIGHBOUR: 'it returns false'. Refute it at one input. -/
def fnExactQuietSetsWrong : ChangeSpec := { name := "fnExactQuietSets", fn := fun _ => fun
  | [d] => { results := [.lit (.bool false)], args := [d] }
  | _ => none }
def FnExactQuietSetsWrongFalsely : Prop := fnExactQuietSetsRow.holds Try.pinned (OpenSpec.ofChange fnExactQuietSetsWrong)

/-- 'laws.FnExactOutBy': WHATEVER THE INPUT: true; the input reads as it did. -/
def fnExactOutBySpec : ChangeSpec := { name := "fnExactOutBy", fn := fun _ => fun
  | [d1, d2] => { results := [.lit (.bool true)], args := [d1, d2] }
  | _ => none }
def fnExactOutByRow : OpenClaim := { program := "ytkehjajhocddoaa", sum := "6d4ca794d29ef4fcae376b728604a50a30816e8e036cf7a797aacdceb71bc256", func := "loop.example/switchpuzzles/laws.FnExactOutBy", spec := "fnExactOutBy", apart := false }
def FnExactOutBySaid : Prop := fnExactOutByRow.holds Try.pinned (OpenSpec.ofChange fnExactOutBySpec)

/-- ITS FALSE NEIGHBOUR: 'it returns false'. Refute it at one input. -/
def fnExactOutByWrong : ChangeSpec := { name := "fnExactOutBy", fn := fun _ => fun
  | [d1, d2] => { results := [.lit (.bool false)], args := [d1, d2] }
  | _ => none }
def FnExactOutByWrongFalsely : Prop := fnExactOutByRow.holds Try.pinned (OpenSpec.ofChange fnExactOutByWrong)

/-- 'laws.FnExactOutMay': WHATEVER THE INPUT: true; the input reads as it did. -/
def fnExactOutMaySpec : ChangeSpec := { name := "fnExactOutMay", fn := fun _ => fun
  | [d1, d2] => { results := [.lit (.bool true)], args := [d1, d2] }
  | _ => none }
def fnExactOutMayRow : OpenClaim := { program := "ytkehjajhocddoaa", sum := "6d4ca794d29ef4fcae376b728604a50a30816e8e036cf7a797aacdceb71bc256", func := "loop.example/switchpuzzles/laws.FnExactOutMay", spec := "fnExactOutMay", apart := false }
def FnExactOutMaySaid : Prop := fnExactOutMayRow.holds Try.pinned (OpenSpec.ofChange fnExactOutMaySpec)

/-- ITS FALSE NEIGHBOUR: 'it returns false'. Refute it at one input. -/
def fnExactOutMayWrong : ChangeSpec := { name := "fnExactOutMay", fn := fun _ => fun
  | [d1, d2] => { results := [.lit (.bool false)], args := [d1, d2] }
  | _ => none }
def FnExactOutMayWrongFalsely : Prop := fnExactOutMayRow.holds Try.pinned (OpenSpec.ofChange fnExactOutMayWrong)

/-- 'laws.FnExactRowsOf': WHATEVER THE INPUT: true; the input reads as it did. -/
def fnExactRowsOfSpec : ChangeSpec := { name := "fnExactRowsOf", fn := fun _ => fun
  | [d] => { results := [.lit (.bool true)], args := [d] }
  | _ => none }
def fnExactRowsOfRow : OpenClaim := { program := "ytkehjajhocddoaa", sum := "6d4ca794d29ef4fcae376b728604a50a30816e8e036cf7a797aacdceb71bc256", func := "loop.example/switchpuzzles/laws.FnExactRowsOf", spec := "fnExactRowsOf", apart := false }
def FnExactRowsOfSaid : Prop := fnExactRowsOfRow.holds Try.pinned (OpenSpec.ofChange fnExactRowsOfSpec)

/-- ITS FALSE NEIGHBOUR: 'it returns false'. Refute it at one input. -/
def fnExactRowsOfWrong : ChangeSpec := { name := "fnExactRowsOf", fn := fun _ => fun
  | [d] => { results := [.lit (.bool false)], args := [d] }
  | _ => none }
def FnExactRowsOfWrongFalsely : Prop := fnExactRowsOfRow.holds Try.pinned (OpenSpec.ofChange fnExactRowsOfWrong)

/- THE SECOND FORM. 'bulk': how many values and letters a reading holds, each counted each time it is reached (what is shared counts as often as it is met; a slice's spare places count too). A statement '..UptoSaid' is the law's where the arguments, and the package variables that the reading takes, are together of bulk at most 1048576: NARROWER than '..Said'. Prove '..Said' where nothing that the law and all that it calls make is longer than what came in: it says more and counts as full. Else prove '..UptoSaid'. A law counts once. -/
mutual
def uptoBulk {H : Type} : DataW H → Nat
  | .lit (.string bytes) => bytes.length + 1
  | .lit _ => 1
  | .nil => 1
  | .ptr d => uptoBulk d + 1
  | .slice elems spare => uptoBulkAll elems + uptoBulkAll spare + 1
  | .agg parts => uptoBulkAll parts + 1
  | .iface _ d => uptoBulk d + 1
  | .map entries => uptoBulkEntries entries + 1
  | .held _ => 1
def uptoBulkAll {H : Type} : List (DataW H) → Nat
  | [] => 0
  | d :: r => uptoBulk d + uptoBulkAll r
def uptoBulkEntries {H : Type} : List (Lit × DataW H) → Nat
  | [] => 0
  | x :: r => uptoBulkEntry x + uptoBulkEntries r
def uptoBulkEntry {H : Type} : Lit × DataW H → Nat
  | (.string bytes, d) => bytes.length + uptoBulk d + 1
  | (_, d) => uptoBulk d + 1
 end
def uptoSmall : (H : Type) → List (DataW H) → Bool := fun _ ds => decide (uptoBulkAll ds ≤ 1048576)
def OpenSpec.upto (s : _root_.Go.ChangeSpec) : _root_.Go.OpenSpec := { _root_.Go.OpenSpec.ofChange s with cond := some uptoSmall }

/-- 'laws.FnExactPressSet', WHERE WHAT IT READS IS OF BULK AT MOST 1048576: true; the input reads as it did. -/
def fnExactPressSetUptoRow : OpenClaim := { program := "ytkehjajhocddoaa", sum := "6d4ca794d29ef4fcae376b728604a50a30816e8e036cf7a797aacdceb71bc256", func := "loop.example/switchpuzzles/laws.FnExactPressSet", spec := "fnExactPressSet", apart := false, narrowed := true }
def FnExactPressSetUptoSaid : Prop := fnExactPressSetUptoRow.holds Try.pinned (OpenSpec.upto fnExactPressSetSpec)

/-- 'laws.FnExactQuiet', WHERE WHAT IT READS IS OF BULK AT MOST 1048576: true; the input reads as it did. -/
def fnExactQuietUptoRow : OpenClaim := { program := "ytkehjajhocddoaa", sum := "6d4ca794d29ef4fcae376b728604a50a30816e8e036cf7a797aacdceb71bc256", func := "loop.example/switchpuzzles/laws.FnExactQuiet", spec := "fnExactQuiet", apart := false, narrowed := true }
def FnExactQuietUptoSaid : Prop := fnExactQuietUptoRow.holds Try.pinned (OpenSpec.upto fnExactQuietSpec)

/-- 'laws.FnExactQuietSets', WHERE WHAT IT READS IS OF BULK AT MOST 1048576: true; the input reads as it did. -/
def fnExactQuietSetsUptoRow : OpenClaim := { program := "ytkehjajhocddoaa", sum := "6d4ca794d29ef4fcae376b728604a50a30816e8e036cf7a797aacdceb71bc256", func := "loop.example/switchpuzzles/laws.FnExactQuietSets", spec := "fnExactQuietSets", apart := false, narrowed := true }
def FnExactQuietSetsUptoSaid : Prop := fnExactQuietSetsUptoRow.holds Try.pinned (OpenSpec.upto fnExactQuietSetsSpec)

/-- 'laws.FnExactOutBy', WHERE WHAT IT READS IS OF BULK AT MOST 1048576: true; the input reads as it did. -/
def fnExactOutByUptoRow : OpenClaim := { program := "ytkehjajhocddoaa", sum := "6d4ca794d29ef4fcae376b728604a50a30816e8e036cf7a797aacdceb71bc256", func := "loop.example/switchpuzzles/laws.FnExactOutBy", spec := "fnExactOutBy", apart := false, narrowed := true }
def FnExactOutByUptoSaid : Prop := fnExactOutByUptoRow.holds Try.pinned (OpenSpec.upto fnExactOutBySpec)

/-- 'laws.FnExactOutMay', WHERE WHAT IT READS IS OF BULK AT MOST 1048576: true; the input reads as it did. -/
def fnExactOutMayUptoRow : OpenClaim := { program := "ytkehjajhocddoaa", sum := "6d4ca794d29ef4fcae376b728604a50a30816e8e036cf7a797aacdceb71bc256", func := "loop.example/switchpuzzles/laws.FnExactOutMay", spec := "fnExactOutMay", apart := false, narrowed := true }
def FnExactOutMayUptoSaid : Prop := fnExactOutMayUptoRow.holds Try.pinned (OpenSpec.upto fnExactOutMaySpec)

/-- 'laws.FnExactRowsOf', WHERE WHAT IT READS IS OF BULK AT MOST 1048576: true; the input reads as it did. -/
def fnExactRowsOfUptoRow : OpenClaim := { program := "ytkehjajhocddoaa", sum := "6d4ca794d29ef4fcae376b728604a50a30816e8e036cf7a797aacdceb71bc256", func := "loop.example/switchpuzzles/laws.FnExactRowsOf", spec := "fnExactRowsOf", apart := false, narrowed := true }
def FnExactRowsOfUptoSaid : Prop := fnExactRowsOfUptoRow.holds Try.pinned (OpenSpec.upto fnExactRowsOfSpec)

end Rows
end Go.Proofs.Ytkehjajhocddoaa
