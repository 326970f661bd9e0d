/-
  No cell of these rows narrows 'for every input' (looked for: loops, veiled, ifaces, maps, wideKeys, modest, calm, conditions, laid).
  DERIVED. THE GIVEN ROWS OF THIS SEAT. 6 by the template 'for every input the law returns true; each argument reads behind the call as it read before'; 0 by the template 'total and deterministic' (their statements: YtabcjobggceaaaaTotals.lean).
  GIVEN WITH THE SEED: the statements are not yours to turn. If you find one false, say at which input.
  Laid BY PROGRAM, IN A SANDBOX (cutbox-rows.mjs): the forced cells as the released guide's own fill.sh prints them over the translation c05d1e1ab0a4a6db… (all of the seat's roots in one cut). By AI agents, Wed Nov 11 2026. No macro, syntax, notation, axiom, sorry.
-/
import Derived.Test.YtabcjobggceaaaaChecked
import GoSem.Claim
import GoSem.ClaimJoined
import GoSem.ClaimMapViews
import Derived.JoinedTies
import Derived.KernelRfl
namespace Go.Proofs.Ytabcjobggceaaaa
/- THE CELL 'sum', in the pinned program and in every row, IS THE sha256 OF THE DUMP (.gsa) THAT YtabcjobggceaaaaProg.lean LOADS. Nothing in Lean hashes anything: it is a label: what it is worth is what the hold of that sum in a sandbox is worth. -/
noncomputable def Try.pinned : Pinned := { name := "ytabcjobggceaaaa", sum := "c05d1e1ab0a4a6db54917b21e2aa023e2646462d4f97a118436109a418086dfa", checked := Try.checked }
namespace Rows
def none {H : Type} : Left H := { results := [], args := [] }

/-- 'laws.FnGraphValid': WHATEVER THE INPUT: true; the input reads as it did. -/
def fnGraphValidSpec : ChangeSpec := { name := "fnGraphValid", fn := fun _ => fun
  | [d] => { results := [.lit (.bool true)], args := [d] }
  | _ => none }
def fnGraphValidRow : OpenClaim := { program := "ytabcjobggceaaaa", sum := "c05d1e1ab0a4a6db54917b21e2aa023e2646462d4f97a118436109a418086dfa", func := "loop.example/switchpuzzles/laws.FnGraphValid", spec := "fnGraphValid", apart := false }
def FnGraphValidSaid : Prop := fnGraphValidRow.holds Try.pinned (OpenSpec.ofChange fnGraphValidSpec)

/-- ITS FALSE NEIGHBOUR: 'it returns false'. Refute it at one input. -/
def fnGraphValidWrong : ChangeSpec := { name := "fnGraphValid", fn := fun _ => fun
  | [d] => { results := [.lit (.bool false)], args := [d] }
  | _ => none }
def FnGraphValidWrongFalsely : Prop := fnGraphValidRow.holds Try.pinned (OpenSpec.ofChange fnGraphValidWrong)

/-- 'laws.FnSetValid': WHATEVER THE INPUT: true; the input reads as it did. -/
def fnSetValidSpec : ChangeSpec := { name := "fnSetValid", fn := fun _ => fun
  | [d] => { results := [.lit (.bool true)], args := [d] }
  | _ => none }
def fnSetValidRow : OpenClaim := { program := "ytabcjobggceaaaa", sum := "c05d1e1ab0a4a6db54917b21e2aa023e2646462d4f97a118436109a418086dfa", func := "loop.example/switchpuzzles/laws.FnSetValid", spec := "fnSetValid", apart := false }
def FnSetValidSaid : Prop := fnSetValidRow.holds Try.pinned (OpenSpec.ofChange fnSetValidSpec)

/-- ITS FALSE NEIGHBOUR: 'it returns false'. Refute it at one input. -/
def fnSetValidWrong : ChangeSpec := { name := "fnSetValid", fn := fun _ => fun
  | [d] => { results := [.lit (.bool false)], args := [d] }
  | _ => none }
def FnSetValidWrongFalsely : Prop := fnSetValidRow.holds Try.pinned (OpenSpec.ofChange fnSetValidWrong)

/-- 'laws.FnSetMany': WHATEVER THE INPUT: true; the input reads as it did. -/
def fnSetManySpec : ChangeSpec := { name := "fnSetMany", fn := fun _ => fun
  | [d] => { results := [.lit (.bool true)], args := [d] }
  | _ => none }
def fnSetManyRow : OpenClaim := { program := "ytabcjobggceaaaa", sum := "c05d1e1ab0a4a6db54917b21e2aa023e2646462d4f97a118436109a418086dfa", func := "loop.example/switchpuzzles/laws.FnSetMany", spec := "fnSetMany", apart := false }
def FnSetManySaid : Prop := fnSetManyRow.holds Try.pinned (OpenSpec.ofChange fnSetManySpec)

/-- ITS FALSE NEIGHBOUR: 'it returns false'. Refute it at one input. -/
def fnSetManyWrong : ChangeSpec := { name := "fnSetMany", fn := fun _ => fun
  | [d] => { results := [.lit (.bool false)], args := [d] }
  | _ => none }
def FnSetManyWrongFalsely : Prop := fnSetManyRow.holds Try.pinned (OpenSpec.ofChange fnSetManyWrong)

/-- 'laws.FnLinesMany': WHATEVER THE INPUT: true; the input reads as it did. -/
def fnLinesManySpec : ChangeSpec := { name := "fnLinesMany", fn := fun _ => fun
  | [d] => { results := [.lit (.bool true)], args := [d] }
  | _ => none }
def fnLinesManyRow : OpenClaim := { program := "ytabcjobggceaaaa", sum := "c05d1e1ab0a4a6db54917b21e2aa023e2646462d4f97a118436109a418086dfa", func := "loop.example/switchpuzzles/laws.FnLinesMany", spec := "fnLinesMany", apart := false }
def FnLinesManySaid : Prop := fnLinesManyRow.holds Try.pinned (OpenSpec.ofChange fnLinesManySpec)

/-- ITS FALSE NEIGHBOUR: 'it returns false'. Refute it at one input. -/
def fnLinesManyWrong : ChangeSpec := { name := "fnLinesMany", fn := fun _ => fun
  | [d] => { results := [.lit (.bool false)], args := [d] }
  | _ => none }
def FnLinesManyWrongFalsely : Prop := fnLinesManyRow.holds Try.pinned (OpenSpec.ofChange fnLinesManyWrong)

/-- 'laws.FnLineSet': WHATEVER THE INPUT: true; the input reads as it did. -/
def fnLineSetSpec : ChangeSpec := { name := "fnLineSet", fn := fun _ => fun
  | [d] => { results := [.lit (.bool true)], args := [d] }
  | _ => none }
def fnLineSetRow : OpenClaim := { program := "ytabcjobggceaaaa", sum := "c05d1e1ab0a4a6db54917b21e2aa023e2646462d4f97a118436109a418086dfa", func := "loop.example/switchpuzzles/laws.FnLineSet", spec := "fnLineSet", apart := false }
def FnLineSetSaid : Prop := fnLineSetRow.holds Try.pinned (OpenSpec.ofChange fnLineSetSpec)

/-- ITS FALSE NEIGHBOUR: 'it returns false'. Refute it at one input. -/
def fnLineSetWrong : ChangeSpec := { name := "fnLineSet", fn := fun _ => fun
  | [d] => { results := [.lit (.bool false)], args := [d] }
  | _ => none }
def FnLineSetWrongFalsely : Prop := fnLineSetRow.holds Try.pinned (OpenSpec.ofChange fnLineSetWrong)

/-- 'laws.FnBesideSet': WHATEVER THE INPUT: true; the input reads as it did. -/
def fnBesideSetSpec : ChangeSpec := { name := "fnBesideSet", fn := fun _ => fun
  | [d] => { results := [.lit (.bool true)], args := [d] }
  | _ => none }
def fnBesideSetRow : OpenClaim := { program := "ytabcjobggceaaaa", sum := "c05d1e1ab0a4a6db54917b21e2aa023e2646462d4f97a118436109a418086dfa", func := "loop.example/switchpuzzles/laws.FnBesideSet", spec := "fnBesideSet", apart := false }
def FnBesideSetSaid : Prop := fnBesideSetRow.holds Try.pinned (OpenSpec.ofChange fnBesideSetSpec)

/-- ITS FALSE NEIGHBOUR: 'it returns false'. Refute it at one input. -/
def fnBesideSetWrong : ChangeSpec := { name := "fnBesideSet", fn := fun _ => fun
  | [d] => { results := [.lit (.bool false)], args := [d] }
  | _ => none }
def FnBesideSetWrongFalsely : Prop := fnBesideSetRow.holds Try.pinned (OpenSpec.ofChange fnBesideSetWrong)

/- THE SECOND FORM. 'bulk': how many values and letters a reading holds, each counted each time it is reached (what is shared counts as often as it is met; a slice's spare places count too). A statement '..UptoSaid' is the law's where the arguments, and the package variables that the reading takes, are together of bulk at most 1048576: NARROWER than '..Said'. Prove '..Said' where nothing that the law and all that it calls make is longer than what came in: it says more and counts as full. Else prove '..UptoSaid'. A law counts once. -/
mutual
def uptoBulk {H : Type} : DataW H → Nat
  | .lit (.string bytes) => bytes.length + 1
  | .lit _ => 1
  | .nil => 1
  | .ptr d => uptoBulk d + 1
  | .slice elems spare => uptoBulkAll elems + uptoBulkAll spare + 1
  | .agg parts => uptoBulkAll parts + 1
  | .iface _ d => uptoBulk d + 1
  | .map entries => uptoBulkEntries entries + 1
  | .held _ => 1
def uptoBulkAll {H : Type} : List (DataW H) → Nat
  | [] => 0
  | d :: r => uptoBulk d + uptoBulkAll r
def uptoBulkEntries {H : Type} : List (Lit × DataW H) → Nat
  | [] => 0
  | x :: r => uptoBulkEntry x + uptoBulkEntries r
def uptoBulkEntry {H : Type} : Lit × DataW H → Nat
  | (.string bytes, d) => bytes.length + uptoBulk d + 1
  | (_, d) => uptoBulk d + 1
 end
def uptoSmall : (H : Type) → List (DataW H) → Bool := fun _ ds => decide (uptoBulkAll ds ≤ 1048576)
def OpenSpec.upto (s : _root_.Go.ChangeSpec) : _root_.Go.OpenSpec := { _root_.Go.OpenSpec.ofChange s with cond := some uptoSmall }

/-- 'laws.FnGraphValid', WHERE WHAT IT READS IS OF BULK AT MOST 1048576: true; the input reads as it did. -/
def fnGraphValidUptoRow : OpenClaim := { program := "ytabcjobggceaaaa", sum := "c05d1e1ab0a4a6db54917b21e2aa023e2646462d4f97a118436109a418086dfa", func := "loop.example/switchpuzzles/laws.FnGraphValid", spec := "fnGraphValid", apart := false, narrowed := true }
def FnGraphValidUptoSaid : Prop := fnGraphValidUptoRow.holds Try.pinned (OpenSpec.upto fnGraphValidSpec)

/-- 'laws.FnSetValid', WHERE WHAT IT READS IS OF BULK AT MOST 1048576: true; the input reads as it did. -/
def fnSetValidUptoRow : OpenClaim := { program := "ytabcjobggceaaaa", sum := "c05d1e1ab0a4a6db54917b21e2aa023e2646462d4f97a118436109a418086dfa", func := "loop.example/switchpuzzles/laws.FnSetValid", spec := "fnSetValid", apart := false, narrowed := true }
def FnSetValidUptoSaid : Prop := fnSetValidUptoRow.holds Try.pinned (OpenSpec.upto fnSetValidSpec)

/-- 'laws.FnSetMany', WHERE WHAT IT READS IS OF BULK AT MOST 1048576: true; the input reads as it did. -/
def fnSetManyUptoRow : OpenClaim := { program := "ytabcjobggceaaaa", sum := "c05d1e1ab0a4a6db54917b21e2aa023e2646462d4f97a118436109a418086dfa", func := "loop.example/switchpuzzles/laws.FnSetMany", spec := "fnSetMany", apart := false, narrowed := true }
def FnSetManyUptoSaid : Prop := fnSetManyUptoRow.holds Try.pinned (OpenSpec.upto fnSetManySpec)

/-- 'laws.FnLinesMany', WHERE WHAT IT READS IS OF BULK AT MOST 1048576: true; the input reads as it did. -/
def fnLinesManyUptoRow : OpenClaim := { program := "ytabcjobggceaaaa", sum := "c05d1e1ab0a4a6db54917b21e2aa023e2646462d4f97a118436109a418086dfa", func := "loop.example/switchpuzzles/laws.FnLinesMany", spec := "fnLinesMany", apart := false, narrowed := true }
def FnLinesManyUptoSaid : Prop := fnLinesManyUptoRow.holds Try.pinned (OpenSpec.upto fnLinesManySpec)

/-- 'laws.FnLineSet', WHERE WHAT IT READS IS OF BULK AT MOST 1048576: true; the input reads as it did. -/
def fnLineSetUptoRow : OpenClaim := { program := "ytabcjobggceaaaa", sum := "c05d1e1ab0a4a6db54917b21e2aa023e2646462d4f97a118436109a418086dfa", func := "loop.example/switchpuzzles/laws.FnLineSet", spec := "fnLineSet", apart := false, narrowed := true }
def FnLineSetUptoSaid : Prop := fnLineSetUptoRow.holds Try.pinned (OpenSpec.upto fnLineSetSpec)

/-- 'laws.FnBesideSet', WHERE WHAT IT READS IS OF BULK AT MOST 1048576: true; the input reads as it did. -/
def fnBesideSetUptoRow : OpenClaim := { program := "ytabcjobggceaaaa", sum := "c05d1e1ab0a4a6db54917b21e2aa023e2646462d4f97a118436109a418086dfa", func := "loop.example/switchpuzzles/laws.FnBesideSet", spec := "fnBesideSet", apart := false, narrowed := true }
def FnBesideSetUptoSaid : Prop := fnBesideSetUptoRow.holds Try.pinned (OpenSpec.upto fnBesideSetSpec)

end Rows
end Go.Proofs.Ytabcjobggceaaaa
