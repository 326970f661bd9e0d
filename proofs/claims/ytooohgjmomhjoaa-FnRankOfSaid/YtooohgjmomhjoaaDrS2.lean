/- The draws of a graph and a set, weak contracts: a list of at most ten ints, and any int. Conditions: at most 2^40 bytes. -/
import Derived.Test.YtooohgjmomhjoaaDrS
namespace Go.Proofs.Ytooohgjmomhjoaa
open Go.RowKit
def DrawGI (w : World) (e : Ending) (w' : World) : Prop :=
  ∃ (A1 : Option Addr) (c1 : Nat) (l : List Int) (s : Int), e = .returned (.tuple #[.agg #[.slice A1 l.length c1], .int .i64 s]) ∧ l.length ≤ 10 ∧ RdI w' w'.heap.size A1 l ∧ Below w.heap.size w w'
end Go.Proofs.Ytooohgjmomhjoaa

