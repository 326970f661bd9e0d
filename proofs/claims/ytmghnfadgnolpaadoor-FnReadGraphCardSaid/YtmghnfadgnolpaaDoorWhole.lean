/- Whole of the program and of the reference, each by its contract. No conditions. -/
import Derived.Test.YtmghnfadgnolpaaDoorPart
import Derived.Deep.RegionWith
import Derived.Deep.DeepMust
namespace Go.Proofs.YtmghnfadgnolpaaDoor
open Go.RowKit
theorem pow_sub_nat {n : Nat} : (2 : Int) ^ n - 1 = ((2 ^ n - 1 : Nat) : Int) := by
  rw [pow_nat]; have := Nat.two_pow_pos n; omega
end Go.Proofs.YtmghnfadgnolpaaDoor

