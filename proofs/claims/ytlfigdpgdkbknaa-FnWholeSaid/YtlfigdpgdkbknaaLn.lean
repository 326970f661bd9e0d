/- The program's LineSet at valid graphs. No conditions. -/
import Derived.Test.YtlfigdpgdkbknaaLine2
import Derived.Test.YtlfigdpgdkbknaaMath7
namespace Go.Proofs.Ytlfigdpgdkbknaa
open Go.RowKit
theorem implLineG (G : List Nat) (hG : Sw.GVN G) (ad : Addr) (c a b : Nat) (on : Bool) (ha : a < G.length) (hb : b < G.length) (hab : a ≠ b) (w : World) (hr : RdG w w.heap.size ad G) :
    Calls Try.prog 19 #[.agg #[.slice (some ad) G.length c], .int .i64 a, .int .i64 b, .bool on] w fun e w' => ∃ (ad2 : Addr) (c2 : Nat), e = .returned (.tuple #[.agg #[.slice (some ad2) G.length c2], .bool true]) ∧ RdG w' w'.heap.size ad2 (Sw.lineG G a b on) ∧ Below w.heap.size w w' := by
  have h := implLineSet (Sw.toI G) (some ad) c a b on (by rw [Sw.toI_len]; have := hG.le; omega) w hr.toI
  rw [Sw.toI_len] at h
  refine h.mono ?_
  rintro e w' ⟨v, rfl, hO, hb'⟩
  rw [Sw.vLine_yes hG ha hb hab] at hO
  rw [Sw.vLineB_yes hG ha hb hab]
  obtain ⟨A2, c2, rfl, hr2⟩ := hO.rd
  have hK := Sw.lineG_valid (on := on) hG ha hb hab
  obtain ⟨ad2, rfl, hg2⟩ := RdG.of hK hr2
  refine ⟨ad2, c2, ?_, hg2, hb'⟩
  rw [Sw.toI_len, Sw.tab_len]
end Go.Proofs.Ytlfigdpgdkbknaa

