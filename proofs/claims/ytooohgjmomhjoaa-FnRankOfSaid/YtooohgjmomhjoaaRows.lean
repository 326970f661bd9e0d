/-
  No cell of these rows narrows 'for every input' (looked for: loops, veiled, ifaces, maps, wideKeys, modest, calm, conditions, laid).
  DERIVED. THE GIVEN ROWS OF THIS SEAT. 3 by the template 'for every input the law returns true; each argument reads behind the call as it read before'; 0 by the template 'total and deterministic' (their statements: YtooohgjmomhjoaaTotals.lean).
  GIVEN WITH THE SEED: the statements are not yours to turn. If you find one false, say at which input.
  Laid BY PROGRAM, IN A SANDBOX (cutbox-rows.mjs): the forced cells as the released guide's own fill.sh prints them over the translation b2c7dbfe651c092e… (all of the seat's roots in one cut). By AI agents, Wed Nov 11 2026. No macro, syntax, notation, axiom, sorry.
-/
import Derived.Test.YtooohgjmomhjoaaChecked
import GoSem.Claim
import GoSem.ClaimJoined
import GoSem.ClaimMapViews
import Derived.JoinedTies
import Derived.KernelRfl
namespace Go.Proofs.Ytooohgjmomhjoaa
/- THE CELL 'sum', in the pinned program and in every row, IS THE sha256 OF THE DUMP (.gsa) THAT YtooohgjmomhjoaaProg.lean LOADS. Nothing in Lean hashes anything: it is a label: what it is worth is what the hold of that sum in a sandbox is worth. -/
noncomputable def Try.pinned : Pinned := { name := "ytooohgjmomhjoaa", sum := "b2c7dbfe651c092e79588bdba6e5be9503d4633b1b6c460da3e651ce10eaa409", checked := Try.checked }
namespace Rows
def none {H : Type} : Left H := { results := [], args := [] }

/-- 'laws.FnPressRun': WHATEVER THE INPUT: true; the input reads as it did. -/
def fnPressRunSpec : ChangeSpec := { name := "fnPressRun", fn := fun _ => fun
  | [d] => { results := [.lit (.bool true)], args := [d] }
  | _ => none }
def fnPressRunRow : OpenClaim := { program := "ytooohgjmomhjoaa", sum := "b2c7dbfe651c092e79588bdba6e5be9503d4633b1b6c460da3e651ce10eaa409", func := "loop.example/switchpuzzles/laws.FnPressRun", spec := "fnPressRun", apart := false }
def FnPressRunSaid : Prop := fnPressRunRow.holds Try.pinned (OpenSpec.ofChange fnPressRunSpec)

/-- ITS FALSE NEIGHBOUR: 'it returns false'. Refute it at one input. -/
def fnPressRunWrong : ChangeSpec := { name := "fnPressRun", fn := fun _ => fun
  | [d] => { results := [.lit (.bool false)], args := [d] }
  | _ => none }
def FnPressRunWrongFalsely : Prop := fnPressRunRow.holds Try.pinned (OpenSpec.ofChange fnPressRunWrong)

/-- 'laws.FnOutMany': WHATEVER THE INPUT: true; the input reads as it did. -/
def fnOutManySpec : ChangeSpec := { name := "fnOutMany", fn := fun _ => fun
  | [d] => { results := [.lit (.bool true)], args := [d] }
  | _ => none }
def fnOutManyRow : OpenClaim := { program := "ytooohgjmomhjoaa", sum := "b2c7dbfe651c092e79588bdba6e5be9503d4633b1b6c460da3e651ce10eaa409", func := "loop.example/switchpuzzles/laws.FnOutMany", spec := "fnOutMany", apart := false }
def FnOutManySaid : Prop := fnOutManyRow.holds Try.pinned (OpenSpec.ofChange fnOutManySpec)

/-- ITS FALSE NEIGHBOUR: 'it returns false'. Refute it at one input. -/
def fnOutManyWrong : ChangeSpec := { name := "fnOutMany", fn := fun _ => fun
  | [d] => { results := [.lit (.bool false)], args := [d] }
  | _ => none }
def FnOutManyWrongFalsely : Prop := fnOutManyRow.holds Try.pinned (OpenSpec.ofChange fnOutManyWrong)

/-- 'laws.FnRankOf': WHATEVER THE INPUT: true; the input reads as it did. -/
def fnRankOfSpec : ChangeSpec := { name := "fnRankOf", fn := fun _ => fun
  | [d] => { results := [.lit (.bool true)], args := [d] }
  | _ => none }
def fnRankOfRow : OpenClaim := { program := "ytooohgjmomhjoaa", sum := "b2c7dbfe651c092e79588bdba6e5be9503d4633b1b6c460da3e651ce10eaa409", func := "loop.example/switchpuzzles/laws.FnRankOf", spec := "fnRankOf", apart := false }
def FnRankOfSaid : Prop := fnRankOfRow.holds Try.pinned (OpenSpec.ofChange fnRankOfSpec)

/-- ITS FALSE NEIGHBOUR: 'it returns false'. Refute it at one input. -/
def fnRankOfWrong : ChangeSpec := { name := "fnRankOf", fn := fun _ => fun
  | [d] => { results := [.lit (.bool false)], args := [d] }
  | _ => none }
def FnRankOfWrongFalsely : Prop := fnRankOfRow.holds Try.pinned (OpenSpec.ofChange fnRankOfWrong)

/- THE SECOND FORM. 'bulk': how many values and letters a reading holds, each counted each time it is reached (what is shared counts as often as it is met; a slice's spare places count too). A statement '..UptoSaid' is the law's where the arguments, and the package variables that the reading takes, are together of bulk at most 1048576: NARROWER than '..Said'. Prove '..Said' where nothing that the law and all that it calls make is longer than what came in: it says more and counts as full. Else prove '..UptoSaid'. A law counts once. -/
mutual
def uptoBulk {H : Type} : DataW H → Nat
  | .lit (.string bytes) => bytes.length + 1
  | .lit _ => 1
  | .nil => 1
  | .ptr d => uptoBulk d + 1
  | .slice elems spare => uptoBulkAll elems + uptoBulkAll spare + 1
  | .agg parts => uptoBulkAll parts + 1
  | .iface _ d => uptoBulk d + 1
  | .map entries => uptoBulkEntries entries + 1
  | .held _ => 1
def uptoBulkAll {H : Type} : List (DataW H) → Nat
  | [] => 0
  | d :: r => uptoBulk d + uptoBulkAll r
def uptoBulkEntries {H : Type} : List (Lit × DataW H) → Nat
  | [] => 0
  | x :: r => uptoBulkEntry x + uptoBulkEntries r
def uptoBulkEntry {H : Type} : Lit × DataW H → Nat
  | (.string bytes, d) => bytes.length + uptoBulk d + 1
  | (_, d) => uptoBulk d + 1
 end
def uptoSmall : (H : Type) → List (DataW H) → Bool := fun _ ds => decide (uptoBulkAll ds ≤ 1048576)
def OpenSpec.upto (s : _root_.Go.ChangeSpec) : _root_.Go.OpenSpec := { _root_.Go.OpenSpec.ofChange s with cond := some uptoSmall }

/-- 'laws.FnPressRun', WHERE WHAT IT READS IS OF BULK AT MOST 1048576: true; the input reads as it did. -/
def fnPressRunUptoRow : OpenClaim := { program := "ytooohgjmomhjoaa", sum := "b2c7dbfe651c092e79588bdba6e5be9503d4633b1b6c460da3e651ce10eaa409", func := "loop.example/switchpuzzles/laws.FnPressRun", spec := "fnPressRun", apart := false, narrowed := true }
def FnPressRunUptoSaid : Prop := fnPressRunUptoRow.holds Try.pinned (OpenSpec.upto fnPressRunSpec)

/-- 'laws.FnOutMany', WHERE WHAT IT READS IS OF BULK AT MOST 1048576: true; the input reads as it did. -/
def fnOutManyUptoRow : OpenClaim := { program := "ytooohgjmomhjoaa", sum := "b2c7dbfe651c092e79588bdba6e5be9503d4633b1b6c460da3e651ce10eaa409", func := "loop.example/switchpuzzles/laws.FnOutMany", spec := "fnOutMany", apart := false, narrowed := true }
def FnOutManyUptoSaid : Prop := fnOutManyUptoRow.holds Try.pinned (OpenSpec.upto fnOutManySpec)

/-- 'laws.FnRankOf', WHERE WHAT IT READS IS OF BULK AT MOST 1048576: true; the input reads as it did. -/
def fnRankOfUptoRow : OpenClaim := { program := "ytooohgjmomhjoaa", sum := "b2c7dbfe651c092e79588bdba6e5be9503d4633b1b6c460da3e651ce10eaa409", func := "loop.example/switchpuzzles/laws.FnRankOf", spec := "fnRankOf", apart := false, narrowed := true }
def FnRankOfUptoSaid : Prop := fnRankOfUptoRow.holds Try.pinned (OpenSpec.upto fnRankOfSpec)

end Rows
end Go.Proofs.Ytooohgjmomhjoaa
