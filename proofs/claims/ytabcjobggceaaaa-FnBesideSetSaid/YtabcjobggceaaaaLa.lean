/- Contracts at valid graphs that the laws on sets use. No conditions. -/
import Derived.Test.YtabcjobggceaaaaLw
import Derived.Test.YtabcjobggceaaaaDrS2
import Derived.Test.YtabcjobggceaaaaMath7
namespace Go.Proofs.Ytabcjobggceaaaa
open Go.RowKit
section
variable (G : List Nat) (hG : Sw.GVN G) (ad : Addr) (c : Nat) (w : World) (hr : RdG w w.heap.size ad G)
include hG hr
theorem implManyG {S : Nat} (hS : S < 2 ^ G.length) : Calls Try.prog 17 #[.agg #[.slice (some ad) G.length c], .int .i64 S] w fun e w' => e = .returned (.int .i64 (Sw.cnt S : Nat)) ∧ Below w.heap.size w w' := by
  have h := implSetMany (Sw.toI G) (some ad) c S (by rw [Sw.toI_len]; have := hG.le; omega) w hr.toI
  rw [Sw.toI_len, Sw.vMany_yes hG hS] at h; exact h
theorem specManyG {S : Nat} (hS : S < 2 ^ G.length) : Calls Try.prog 18 #[.agg #[.slice (some ad) G.length c], .int .i64 S] w fun e w' => e = .returned (.int .i64 (Sw.cnt S : Nat)) ∧ Below w.heap.size w w' := by
  have h := specSetMany (Sw.toI G) (some ad) c S (by rw [Sw.toI_len]; have := hG.le; omega) w hr.toI
  rw [Sw.toI_len, Sw.vMany_yes hG hS] at h; exact h
theorem implBesG' {S : Nat} (hS : S < 2 ^ G.length) : Calls Try.prog 29 #[.agg #[.slice (some ad) G.length c], .int .i64 S] w fun e w' => e = .returned (.int .i64 (Sw.bes G S : Nat)) ∧ Below w.heap.size w w' := by
  have h := implBesideSet (Sw.toI G) (some ad) c S (by rw [Sw.toI_len]; have := hG.le; omega) w hr.toI
  rw [Sw.toI_len, Sw.vBes_yes hG hS] at h; exact h
theorem specBesG' {S : Nat} (hS : S < 2 ^ G.length) : Calls Try.prog 30 #[.agg #[.slice (some ad) G.length c], .int .i64 S] w fun e w' => e = .returned (.int .i64 (Sw.bes G S : Nat)) ∧ Below w.heap.size w w' := by
  have h := specBesideSet (Sw.toI G) (some ad) c S (by rw [Sw.toI_len]; have := hG.le; omega) w hr.toI
  rw [Sw.toI_len, Sw.vBes_yes hG hS] at h; exact h
end
theorem svB_all {l : List Int} : Sw.svB l (2 ^ l.length - 1) = Sw.gvB l := by
  have := pow1 l.length
  cases h : Sw.gvB l
  · exact Sw.svB_no h
  · exact Sw.svB_in h (by omega) (by omega)
theorem svB_more {l : List Int} : Sw.svB l (2 ^ l.length) = false := Sw.svB_out (.inr (Int.le_refl _))
theorem svB_minus {l : List Int} : Sw.svB l (-1) = false := Sw.svB_out (.inl (by decide))
end Go.Proofs.Ytabcjobggceaaaa

