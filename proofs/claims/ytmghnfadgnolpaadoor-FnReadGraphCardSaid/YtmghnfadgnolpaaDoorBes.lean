/- BesideSet of the program and of the reference, and what they call, each by its contract. No conditions but that sets are below 2^40. -/
import Derived.Test.YtmghnfadgnolpaaDoorSv
namespace Go.Proofs.YtmghnfadgnolpaaDoor
open Go.RowKit
end Go.Proofs.YtmghnfadgnolpaaDoor

