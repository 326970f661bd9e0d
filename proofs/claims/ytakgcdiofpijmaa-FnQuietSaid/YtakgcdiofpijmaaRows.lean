/-
  No cell of these rows narrows 'for every input' (looked for: loops, veiled, ifaces, maps, wideKeys, modest, calm, conditions, laid).
  DERIVED. THE GIVEN ROWS OF THIS SEAT. 6 by the template 'for every input the law returns true; each argument reads behind the call as it read before'; 0 by the template 'total and deterministic' (their statements: YtakgcdiofpijmaaTotals.lean).
  GIVEN WITH THE SEED: the statements are not yours to turn. If you find one false, say at which input.
  Laid BY PROGRAM, IN A SANDBOX (cutbox-rows.mjs): the forced cells as the released guide's own fill.sh prints them over the translation d081782cd77909b6… (all of the seat's roots in one cut). By AI agents, Wed Nov 11 2026. No macro, syntax, notation, axiom, sorry.
-/
import Derived.Test.YtakgcdiofpijmaaChecked
import GoSem.Claim
import GoSem.ClaimJoined
import GoSem.ClaimMapViews
import Derived.JoinedTies
import Derived.KernelRfl
namespace Go.Proofs.Ytakgcdiofpijmaa
/- THE CELL 'sum', in the pinned program and in every row, IS THE sha256 OF THE DUMP (.gsa) THAT YtakgcdiofpijmaaProg.lean LOADS. Nothing in Lean hashes anything: it is a label: what it is worth is what the hold of that sum in a sandbox is worth. -/
noncomputable def Try.pinned : Pinned := { name := "ytakgcdiofpijmaa", sum := "d081782cd77909b651919e5624959a306587e1f3cf6fea03407d01eb2d5e73af", checked := Try.checked }
namespace Rows
def none {H : Type} : Left H := { results := [], args := [] }

/-- 'laws.FnGridOf': WHATEVER THE INPUT: true; the input reads as it did. -/
def fnGridOfSpec : ChangeSpec := { name := "fnGridOf", fn := fun _ => fun
  | [d] => { results := [.lit (.bool true)], args := [d] }
  | _ => none }
def fnGridOfRow : OpenClaim := { program := "ytakgcdiofpijmaa", sum := "d081782cd77909b651919e5624959a306587e1f3cf6fea03407d01eb2d5e73af", func := "loop.example/switchpuzzles/laws.FnGridOf", spec := "fnGridOf", apart := false }
def FnGridOfSaid : Prop := fnGridOfRow.holds Try.pinned (OpenSpec.ofChange fnGridOfSpec)

/-- ITS FALSE NEIGHBOUR: 'it returns false'. Refute it at one input. -/
def fnGridOfWrong : ChangeSpec := { name := "fnGridOf", fn := fun _ => fun
  | [d] => { results := [.lit (.bool false)], args := [d] }
  | _ => none }
def FnGridOfWrongFalsely : Prop := fnGridOfRow.holds Try.pinned (OpenSpec.ofChange fnGridOfWrong)

/-- 'laws.FnRingOf': WHATEVER THE INPUT: true; the input reads as it did. -/
def fnRingOfSpec : ChangeSpec := { name := "fnRingOf", fn := fun _ => fun
  | [d] => { results := [.lit (.bool true)], args := [d] }
  | _ => none }
def fnRingOfRow : OpenClaim := { program := "ytakgcdiofpijmaa", sum := "d081782cd77909b651919e5624959a306587e1f3cf6fea03407d01eb2d5e73af", func := "loop.example/switchpuzzles/laws.FnRingOf", spec := "fnRingOf", apart := false }
def FnRingOfSaid : Prop := fnRingOfRow.holds Try.pinned (OpenSpec.ofChange fnRingOfSpec)

/-- ITS FALSE NEIGHBOUR: 'it returns false'. Refute it at one input. -/
def fnRingOfWrong : ChangeSpec := { name := "fnRingOf", fn := fun _ => fun
  | [d] => { results := [.lit (.bool false)], args := [d] }
  | _ => none }
def FnRingOfWrongFalsely : Prop := fnRingOfRow.holds Try.pinned (OpenSpec.ofChange fnRingOfWrong)

/-- 'laws.FnRowsOf': WHATEVER THE INPUT: true; the input reads as it did. -/
def fnRowsOfSpec : ChangeSpec := { name := "fnRowsOf", fn := fun _ => fun
  | [d] => { results := [.lit (.bool true)], args := [d] }
  | _ => none }
def fnRowsOfRow : OpenClaim := { program := "ytakgcdiofpijmaa", sum := "d081782cd77909b651919e5624959a306587e1f3cf6fea03407d01eb2d5e73af", func := "loop.example/switchpuzzles/laws.FnRowsOf", spec := "fnRowsOf", apart := false }
def FnRowsOfSaid : Prop := fnRowsOfRow.holds Try.pinned (OpenSpec.ofChange fnRowsOfSpec)

/-- ITS FALSE NEIGHBOUR: 'it returns false'. Refute it at one input. -/
def fnRowsOfWrong : ChangeSpec := { name := "fnRowsOf", fn := fun _ => fun
  | [d] => { results := [.lit (.bool false)], args := [d] }
  | _ => none }
def FnRowsOfWrongFalsely : Prop := fnRowsOfRow.holds Try.pinned (OpenSpec.ofChange fnRowsOfWrong)

/-- 'laws.FnPressDo': WHATEVER THE INPUT: true; the input reads as it did. -/
def fnPressDoSpec : ChangeSpec := { name := "fnPressDo", fn := fun _ => fun
  | [d] => { results := [.lit (.bool true)], args := [d] }
  | _ => none }
def fnPressDoRow : OpenClaim := { program := "ytakgcdiofpijmaa", sum := "d081782cd77909b651919e5624959a306587e1f3cf6fea03407d01eb2d5e73af", func := "loop.example/switchpuzzles/laws.FnPressDo", spec := "fnPressDo", apart := false }
def FnPressDoSaid : Prop := fnPressDoRow.holds Try.pinned (OpenSpec.ofChange fnPressDoSpec)

/-- ITS FALSE NEIGHBOUR: 'it returns false'. Refute it at one input. -/
def fnPressDoWrong : ChangeSpec := { name := "fnPressDo", fn := fun _ => fun
  | [d] => { results := [.lit (.bool false)], args := [d] }
  | _ => none }
def FnPressDoWrongFalsely : Prop := fnPressDoRow.holds Try.pinned (OpenSpec.ofChange fnPressDoWrong)

/-- 'laws.FnPressSet': WHATEVER THE INPUT: true; the input reads as it did. -/
def fnPressSetSpec : ChangeSpec := { name := "fnPressSet", fn := fun _ => fun
  | [d1, d2] => { results := [.lit (.bool true)], args := [d1, d2] }
  | _ => none }
def fnPressSetRow : OpenClaim := { program := "ytakgcdiofpijmaa", sum := "d081782cd77909b651919e5624959a306587e1f3cf6fea03407d01eb2d5e73af", func := "loop.example/switchpuzzles/laws.FnPressSet", spec := "fnPressSet", apart := false }
def FnPressSetSaid : Prop := fnPressSetRow.holds Try.pinned (OpenSpec.ofChange fnPressSetSpec)

/-- ITS FALSE NEIGHBOUR: 'it returns false'. Refute it at one input. -/
def fnPressSetWrong : ChangeSpec := { name := "fnPressSet", fn := fun _ => fun
  | [d1, d2] => { results := [.lit (.bool false)], args := [d1, d2] }
  | _ => none }
def FnPressSetWrongFalsely : Prop := fnPressSetRow.holds Try.pinned (OpenSpec.ofChange fnPressSetWrong)

/-- 'laws.FnQuiet': WHATEVER THE INPUT: true; the input reads as it did. -/
def fnQuietSpec : ChangeSpec := { name := "fnQuiet", fn := fun _ => fun
  | [d] => { results := [.lit (.bool true)], args := [d] }
  | _ => none }
def fnQuietRow : OpenClaim := { program := "ytakgcdiofpijmaa", sum := "d081782cd77909b651919e5624959a306587e1f3cf6fea03407d01eb2d5e73af", func := "loop.example/switchpuzzles/laws.FnQuiet", spec := "fnQuiet", apart := false }
def FnQuietSaid : Prop := fnQuietRow.holds Try.pinned (OpenSpec.ofChange fnQuietSpec)

/-- ITS FALSE NEIGHBOUR: 'it returns false'. Refute it at one input. -/
def fnQuietWrong : ChangeSpec := { name := "fnQuiet", fn := fun _ => fun
  | [d] => { results := [.lit (.bool false)], args := [d] }
  | _ => none }
def FnQuietWrongFalsely : Prop := fnQuietRow.holds Try.pinned (OpenSpec.ofChange fnQuietWrong)

/- THE SECOND FORM. 'bulk': how many values and letters a reading holds, each counted each time it is reached (what is shared counts as often as it is met; a slice's spare places count too). A statement '..UptoSaid' is the law's where the arguments, and the package variables that the reading takes, are together of bulk at most 1048576: NARROWER than '..Said'. Prove '..Said' where nothing that the law and all that it calls make is longer than what came in: it says more and counts as full. Else prove '..UptoSaid'. A law counts once. -/
mutual
def uptoBulk {H : Type} : DataW H → Nat
  | .lit (.string bytes) => bytes.length + 1
  | .lit _ => 1
  | .nil => 1
  | .ptr d => uptoBulk d + 1
  | .slice elems spare => uptoBulkAll elems + uptoBulkAll spare + 1
  | .agg parts => uptoBulkAll parts + 1
  | .iface _ d => uptoBulk d + 1
  | .map entries => uptoBulkEntries entries + 1
  | .held _ => 1
def uptoBulkAll {H : Type} : List (DataW H) → Nat
  | [] => 0
  | d :: r => uptoBulk d + uptoBulkAll r
def uptoBulkEntries {H : Type} : List (Lit × DataW H) → Nat
  | [] => 0
  | x :: r => uptoBulkEntry x + uptoBulkEntries r
def uptoBulkEntry {H : Type} : Lit × DataW H → Nat
  | (.string bytes, d) => bytes.length + uptoBulk d + 1
  | (_, d) => uptoBulk d + 1
 end
def uptoSmall : (H : Type) → List (DataW H) → Bool := fun _ ds => decide (uptoBulkAll ds ≤ 1048576)
def OpenSpec.upto (s : _root_.Go.ChangeSpec) : _root_.Go.OpenSpec := { _root_.Go.OpenSpec.ofChange s with cond := some uptoSmall }

/-- 'laws.FnGridOf', WHERE WHAT IT READS IS OF BULK AT MOST 1048576: true; the input reads as it did. -/
def fnGridOfUptoRow : OpenClaim := { program := "ytakgcdiofpijmaa", sum := "d081782cd77909b651919e5624959a306587e1f3cf6fea03407d01eb2d5e73af", func := "loop.example/switchpuzzles/laws.FnGridOf", spec := "fnGridOf", apart := false, narrowed := true }
def FnGridOfUptoSaid : Prop := fnGridOfUptoRow.holds Try.pinned (OpenSpec.upto fnGridOfSpec)

/-- 'laws.FnRingOf', WHERE WHAT IT READS IS OF BULK AT MOST 1048576: true; the input reads as it did. -/
def fnRingOfUptoRow : OpenClaim := { program := "ytakgcdiofpijmaa", sum := "d081782cd77909b651919e5624959a306587e1f3cf6fea03407d01eb2d5e73af", func := "loop.example/switchpuzzles/laws.FnRingOf", spec := "fnRingOf", apart := false, narrowed := true }
def FnRingOfUptoSaid : Prop := fnRingOfUptoRow.holds Try.pinned (OpenSpec.upto fnRingOfSpec)

/-- 'laws.FnRowsOf', WHERE WHAT IT READS IS OF BULK AT MOST 1048576: true; the input reads as it did. -/
def fnRowsOfUptoRow : OpenClaim := { program := "ytakgcdiofpijmaa", sum := "d081782cd77909b651919e5624959a306587e1f3cf6fea03407d01eb2d5e73af", func := "loop.example/switchpuzzles/laws.FnRowsOf", spec := "fnRowsOf", apart := false, narrowed := true }
def FnRowsOfUptoSaid : Prop := fnRowsOfUptoRow.holds Try.pinned (OpenSpec.upto fnRowsOfSpec)

/-- 'laws.FnPressDo', WHERE WHAT IT READS IS OF BULK AT MOST 1048576: true; the input reads as it did. -/
def fnPressDoUptoRow : OpenClaim := { program := "ytakgcdiofpijmaa", sum := "d081782cd77909b651919e5624959a306587e1f3cf6fea03407d01eb2d5e73af", func := "loop.example/switchpuzzles/laws.FnPressDo", spec := "fnPressDo", apart := false, narrowed := true }
def FnPressDoUptoSaid : Prop := fnPressDoUptoRow.holds Try.pinned (OpenSpec.upto fnPressDoSpec)

/-- 'laws.FnPressSet', WHERE WHAT IT READS IS OF BULK AT MOST 1048576: true; the input reads as it did. -/
def fnPressSetUptoRow : OpenClaim := { program := "ytakgcdiofpijmaa", sum := "d081782cd77909b651919e5624959a306587e1f3cf6fea03407d01eb2d5e73af", func := "loop.example/switchpuzzles/laws.FnPressSet", spec := "fnPressSet", apart := false, narrowed := true }
def FnPressSetUptoSaid : Prop := fnPressSetUptoRow.holds Try.pinned (OpenSpec.upto fnPressSetSpec)

/-- 'laws.FnQuiet', WHERE WHAT IT READS IS OF BULK AT MOST 1048576: true; the input reads as it did. -/
def fnQuietUptoRow : OpenClaim := { program := "ytakgcdiofpijmaa", sum := "d081782cd77909b651919e5624959a306587e1f3cf6fea03407d01eb2d5e73af", func := "loop.example/switchpuzzles/laws.FnQuiet", spec := "fnQuiet", apart := false, narrowed := true }
def FnQuietUptoSaid : Prop := fnQuietUptoRow.holds Try.pinned (OpenSpec.upto fnQuietSpec)

end Rows
end Go.Proofs.Ytakgcdiofpijmaa
