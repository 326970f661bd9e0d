/- SetValid of the program and of the reference, each by its contract. No conditions. -/
import Derived.Test.YtmghnfadgnolpaaDoorGv
namespace Go.Proofs.YtmghnfadgnolpaaDoor
open Go.RowKit
end Go.Proofs.YtmghnfadgnolpaaDoor

