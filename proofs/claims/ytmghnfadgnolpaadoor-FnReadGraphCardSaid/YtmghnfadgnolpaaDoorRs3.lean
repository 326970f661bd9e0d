/- The reference's ReadGraph by its contract. Conditions: at most 2^40 bytes. -/
import Derived.Test.YtmghnfadgnolpaaDoorRs2
namespace Go.Proofs.YtmghnfadgnolpaaDoor
open Go.RowKit
theorem specReadGraph (l : List UInt8) (hl : l.length ≤ 1099511627776) (w : World) : Calls Tryd.prog 13 #[.string ⟨l.toArray⟩] w (RdPost w l) := by
  by_cases hT : (Sw.cutL 58 l).length = 2
  · by_cases hD : Sw.digL ((Sw.cutL 58 l).getD 0 []) < 1 ∨ 9 < Sw.digL ((Sw.cutL 58 l).getD 0 [])
    · exact specRead_2 l hl w hT hD
    · exact specRead_3 l hl w hT (Sw.digL ((Sw.cutL 58 l).getD 0 [])).toNat (by omega) (by omega) (by omega)
  · exact specRead_1 l hl w hT
end Go.Proofs.YtmghnfadgnolpaaDoor

