/-
  No cell of these rows narrows 'for every input' (looked for: loops, veiled, ifaces, maps, wideKeys, modest, calm, conditions, laid).
  DERIVED. THE GIVEN ROWS OF THIS SEAT. 2 by the template 'for every input the law returns true; each argument reads behind the call as it read before'; 0 by the template 'total and deterministic' (their statements: YtnjfclfpjdbdnaaTotals.lean).
  GIVEN WITH THE SEED: the statements are not yours to turn. If you find one false, say at which input.
  Laid BY PROGRAM, IN A SANDBOX (cutbox-rows.mjs): the forced cells as the released guide's own fill.sh prints them over the translation f470435a31cb8426… (all of the seat's roots in one cut). By AI agents, Wed Nov 11 2026. No macro, syntax, notation, axiom, sorry.
-/
import Derived.Test.YtnjfclfpjdbdnaaChecked
import GoSem.Claim
import GoSem.ClaimJoined
import GoSem.ClaimMapViews
import Derived.JoinedTies
import Derived.KernelRfl
namespace Go.Proofs.Ytnjfclfpjdbdnaa
/- THE CELL 'sum', in the pinned program and in every row, IS THE sha256 OF THE DUMP (.gsa) THAT YtnjfclfpjdbdnaaProg.lean LOADS. Nothing in Lean hashes anything: it is a label: what it is worth is what the hold of that sum in a sandbox is worth. -/
noncomputable def Try.pinned : Pinned := { name := "ytnjfclfpjdbdnaa", sum := "f470435a31cb8426afb9aaa85ff81b9e85801f65ba8b431e841fef11747841fc", checked := Try.checked }
namespace Rows
def none {H : Type} : Left H := { results := [], args := [] }

/-- 'laws.FnExactOutMany': WHATEVER THE INPUT: true; the input reads as it did. -/
def fnExactOutManySpec : ChangeSpec := { name := "fnExactOutMany", fn := fun _ => fun
  | [d] => { results := [.lit (.bool true)], args := [d] }
  | _ => none }
def fnExactOutManyRow : OpenClaim := { program := "ytnjfclfpjdbdnaa", sum := "f470435a31cb8426afb9aaa85ff81b9e85801f65ba8b431e841fef11747841fc", func := "loop.example/switchpuzzles/laws.FnExactOutMany", spec := "fnExactOutMany", apart := false }
def FnExactOutManySaid : Prop := fnExactOutManyRow.holds Try.pinned (OpenSpec.ofChange fnExactOutManySpec)

/-- ITS FALSE NEIGHBOUR: 'it returns false'. Refute it at one input. -/
def fnExactOutManyWrong : ChangeSpec := { name := "fnExactOutMany", fn := fun _ => fun
  | [d] => { results := [.lit (.bool false)], args := [d] }
  | _ => none }
def FnExactOutManyWrongFalsely : Prop := fnExactOutManyRow.holds Try.pinned (OpenSpec.ofChange fnExactOutManyWrong)

/-- 'laws.FnExactWorstOut': WHATEVER THE INPUT: true; the input reads as it did. -/
def fnExactWorstOutSpec : ChangeSpec := { name := "fnExactWorstOut", fn := fun _ => fun
  | [d] => { results := [.lit (.bool true)], args := [d] }
  | _ => none }
def fnExactWorstOutRow : OpenClaim := { program := "ytnjfclfpjdbdnaa", sum := "f470435a31cb8426afb9aaa85ff81b9e85801f65ba8b431e841fef11747841fc", func := "loop.example/switchpuzzles/laws.FnExactWorstOut", spec := "fnExactWorstOut", apart := false }
def FnExactWorstOutSaid : Prop := fnExactWorstOutRow.holds Try.pinned (OpenSpec.ofChange fnExactWorstOutSpec)

/-- ITS FALSE NEIGHBOUR: 'it returns false'. Refute it at one input. -/
def fnExactWorstOutWrong : ChangeSpec := { name := "fnExactWorstOut", fn := fun _ => fun
  | [d] => { results := [.lit (.bool false)], args := [d] }
  | _ => none }
def FnExactWorstOutWrongFalsely : Prop := fnExactWorstOutRow.holds Try.pinned (OpenSpec.ofChange fnExactWorstOutWrong)

/- THE SECOND FORM. 'bulk': how many values and letters a reading holds, each counted each time it is reached (what is shared counts as often as it is met; a slice's spare places count too). A statement '..UptoSaid' is the law's where the arguments, and the package variables that the reading takes, are together of bulk at most 1048576: NARROWER than '..Said'. Prove '..Said' where nothing that the law and all that it calls make is longer than what came in: it says more and counts as full. Else prove '..UptoSaid'. A law counts once. -/
mutual
def uptoBulk {H : Type} : DataW H → Nat
  | .lit (.string bytes) => bytes.length + 1
  | .lit _ => 1
  | .nil => 1
  | .ptr d => uptoBulk d + 1
  | .slice elems spare => uptoBulkAll elems + uptoBulkAll spare + 1
  | .agg parts => uptoBulkAll parts + 1
  | .iface _ d => uptoBulk d + 1
  | .map entries => uptoBulkEntries entries + 1
  | .held _ => 1
def uptoBulkAll {H : Type} : List (DataW H) → Nat
  | [] => 0
  | d :: r => uptoBulk d + uptoBulkAll r
def uptoBulkEntries {H : Type} : List (Lit × DataW H) → Nat
  | [] => 0
  | x :: r => uptoBulkEntry x + uptoBulkEntries r
def uptoBulkEntry {H : Type} : Lit × DataW H → Nat
  | (.string bytes, d) => bytes.length + uptoBulk d + 1
  | (_, d) => uptoBulk d + 1
 end
def uptoSmall : (H : Type) → List (DataW H) → Bool := fun _ ds => decide (uptoBulkAll ds ≤ 1048576)
def OpenSpec.upto (s : _root_.Go.ChangeSpec) : _root_.Go.OpenSpec := { _root_.Go.OpenSpec.ofChange s with cond := some uptoSmall }

/-- 'laws.FnExactOutMany', WHERE WHAT IT READS IS OF BULK AT MOST 1048576: true; the input reads as it did. -/
def fnExactOutManyUptoRow : OpenClaim := { program := "ytnjfclfpjdbdnaa", sum := "f470435a31cb8426afb9aaa85ff81b9e85801f65ba8b431e841fef11747841fc", func := "loop.example/switchpuzzles/laws.FnExactOutMany", spec := "fnExactOutMany", apart := false, narrowed := true }
def FnExactOutManyUptoSaid : Prop := fnExactOutManyUptoRow.holds Try.pinned (OpenSpec.upto fnExactOutManySpec)

/-- 'laws.FnExactWorstOut', WHERE WHAT IT READS IS OF BULK AT MOST 1048576: true; the input reads as it did. -/
def fnExactWorstOutUptoRow : OpenClaim := { program := "ytnjfclfpjdbdnaa", sum := "f470435a31cb8426afb9aaa85ff81b9e85801f65ba8b431e841fef11747841fc", func := "loop.example/switchpuzzles/laws.FnExactWorstOut", spec := "fnExactWorstOut", apart := false, narrowed := true }
def FnExactWorstOutUptoSaid : Prop := fnExactWorstOutUptoRow.holds Try.pinned (OpenSpec.upto fnExactWorstOutSpec)

end Rows
end Go.Proofs.Ytnjfclfpjdbdnaa
