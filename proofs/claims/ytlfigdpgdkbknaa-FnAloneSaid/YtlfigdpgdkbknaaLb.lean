/- Contracts at valid graphs that the laws on colours, parts and covers use. No conditions. -/
import Derived.Test.YtlfigdpgdkbknaaLw
import Derived.Test.YtlfigdpgdkbknaaAm
import Derived.Test.YtlfigdpgdkbknaaTci
import Derived.Test.YtlfigdpgdkbknaaMath8
namespace Go.Proofs.Ytlfigdpgdkbknaa
open Go.RowKit
section
variable (G : List Nat) (hG : Sw.GVN G) (ad : Addr) (c : Nat) (w : World) (hr : RdG w w.heap.size ad G)
include hG hr
theorem implTcNone (h : Sw.tc G = none) : Calls Try.prog 31 #[.agg #[.slice (some ad) G.length c]] w fun e w' => e = .returned (.tuple #[.int .i64 (-1), .bool false]) ∧ Below w.heap.size w w' := by
  have q := implTwoColours (Sw.toI G) (some ad) c (by rw [Sw.toI_len]; have := hG.le; omega) w hr.toI
  rw [Sw.toI_len, (Sw.vTc_none hG h).1, (Sw.vTc_none hG h).2] at q; exact q
theorem implTcSome {C : Nat} (h : Sw.tc G = some C) : Calls Try.prog 31 #[.agg #[.slice (some ad) G.length c]] w fun e w' => e = .returned (.tuple #[.int .i64 C, .bool true]) ∧ Below w.heap.size w w' := by
  have q := implTwoColours (Sw.toI G) (some ad) c (by rw [Sw.toI_len]; have := hG.le; omega) w hr.toI
  rw [Sw.toI_len, (Sw.vTc_some hG h).1, (Sw.vTc_some hG h).2] at q; exact q
theorem specTcNone (h : Sw.tc G = none) : Calls Try.prog 33 #[.agg #[.slice (some ad) G.length c]] w fun e w' => e = .returned (.tuple #[.int .i64 (-1), .bool false]) ∧ Below w.heap.size w w' := by
  have q := specTwoColours (Sw.toI G) (some ad) c (by rw [Sw.toI_len]; have := hG.le; omega) w hr.toI
  rw [Sw.toI_len, (Sw.vTc_none hG h).1, (Sw.vTc_none hG h).2] at q; exact q
theorem specTcSome {C : Nat} (h : Sw.tc G = some C) : Calls Try.prog 33 #[.agg #[.slice (some ad) G.length c]] w fun e w' => e = .returned (.tuple #[.int .i64 C, .bool true]) ∧ Below w.heap.size w w' := by
  have q := specTwoColours (Sw.toI G) (some ad) c (by rw [Sw.toI_len]; have := hG.le; omega) w hr.toI
  rw [Sw.toI_len, (Sw.vTc_some hG h).1, (Sw.vTc_some hG h).2] at q; exact q
theorem implAloneG {S : Nat} (hS : S < 2 ^ G.length) : Calls Try.prog 21 #[.agg #[.slice (some ad) G.length c], .int .i64 S] w fun e w' => e = .returned (.bool (decide (Sw.bes G S &&& S = 0))) ∧ Below w.heap.size w w' := by
  have h := implAlone (Sw.toI G) (some ad) c S (by rw [Sw.toI_len]; have := hG.le; omega) w hr.toI
  rw [Sw.toI_len, Sw.vAlone_yes hG hS] at h; exact h
theorem implPartG {k : Nat} (hk : k < G.length) : Calls Try.prog 10 #[.agg #[.slice (some ad) G.length c], .int .i64 k] w fun e w' => e = .returned (.int .i64 (Sw.pt G k : Nat)) ∧ Below w.heap.size w w' := by
  have h := implPartOf (Sw.toI G) (some ad) c k (by rw [Sw.toI_len]; have := hG.le; omega) w hr.toI
  rw [Sw.toI_len, Sw.vPart_yes hG hk] at h; exact h
theorem implBesG {S : Nat} (hS : S < 2 ^ G.length) : Calls Try.prog 13 #[.agg #[.slice (some ad) G.length c], .int .i64 S] w fun e w' => e = .returned (.int .i64 (Sw.bes G S : Nat)) ∧ Below w.heap.size w w' := by
  have h := implBesideSet (Sw.toI G) (some ad) c S (by rw [Sw.toI_len]; have := hG.le; omega) w hr.toI
  rw [Sw.toI_len, Sw.vBes_yes hG hS] at h; exact h
theorem implCoverG : Calls Try.prog 28 #[.agg #[.slice (some ad) G.length c]] w fun e w' => e = .returned (.int .i64 ((G.length : Int) - (Sw.am G : Nat))) ∧ Below w.heap.size w w' := by
  have h := implCoverLeast (Sw.toI G) (some ad) c (by rw [Sw.toI_len]; have := hG.le; omega) w hr.toI
  rw [Sw.toI_len, Sw.vCover_yes hG] at h; exact h
theorem specCoverG : Calls Try.prog 29 #[.agg #[.slice (some ad) G.length c]] w fun e w' => e = .returned (.int .i64 ((G.length : Int) - (Sw.am G : Nat))) ∧ Below w.heap.size w w' := by
  have h := specCoverLeast (Sw.toI G) (some ad) c (by rw [Sw.toI_len]; have := hG.le; omega) w hr.toI
  rw [Sw.toI_len, Sw.vCover_yes hG] at h; exact h
end
theorem lt_nat_of {N : Nat} {k : Nat} (h : (k : Int) ≤ (N : Int) - 1) : k < N := by omega
end Go.Proofs.Ytlfigdpgdkbknaa

