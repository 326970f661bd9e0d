/- TwoColours of the reference by its contract. No conditions. -/
import Derived.Test.YtakgcdiofpijmaaPart
namespace Go.Proofs.Ytakgcdiofpijmaa
open Go.RowKit
theorem ret_ib {a b : Int} {p q : Bool} (h : a = b) (h2 : p = q) : Ending.returned (.tuple #[.int .i64 a, .bool p]) = .returned (.tuple #[.int .i64 b, .bool q]) := by rw [h, h2]
end Go.Proofs.Ytakgcdiofpijmaa

