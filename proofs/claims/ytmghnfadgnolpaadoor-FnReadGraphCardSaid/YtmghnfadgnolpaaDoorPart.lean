/- PartOf, Whole and Alone of the program and of the reference, each by its contract. No conditions. -/
import Derived.Test.YtmghnfadgnolpaaDoorBes
import Derived.WalkMore
import Derived.ScopeJumps
import Derived.Deep.RegionHeld3
import Derived.Deep.DeepCutAuto
namespace Go.Proofs.YtmghnfadgnolpaaDoor
open Go.RowKit
/-- what holds at each jump back of partFrom -/
def PFJ (G : List Nat) (ad : Addr) (c p : Nat) (w : World) (a' : Act) (w' : World) : Prop :=
  ∃ (s : Nat) (u6 u7 u8 u9 u10 u11 u12 u13 u14 u15 u16 u17 : Value), a' = { tmps := #[.agg #[.slice (some ad) G.length c], .int .i64 p, .pointer (some ⟨w.heap.size, 0, none⟩), undef, .int .i64 0, .int .i64 s, u6, u7, u8, u9, u10, u11, u12, u13, u14, u15, u16, u17, undef], defers := [] } ∧
    s < 2 ^ G.length ∧ Sw.part G s = Sw.pt G p ∧ Below w.heap.size w w' ∧ w'.cell? ⟨w.heap.size, 0, none⟩ = some (.slice (some ad) G.length c) ∧ w.heap.size < w'.heap.size
end Go.Proofs.YtmghnfadgnolpaaDoor

