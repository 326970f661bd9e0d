/- What an exact law holds on to: boxes with rows behind them, one behind the other. No conditions. -/
import Derived.Test.YtdmdkpjeeajkpaaDoorMark
namespace Go.Proofs.YtdmdkpjeeajkpaaDoor
open Go.RowKit
/-- a box at b that holds v, whose row lies in a block from lo on and below hi and holds L -/
def It (W : World) (b lo hi : Nat) (v : Value) (L : List Int) : Prop := W.cell? ⟨b, 0, none⟩ = some v ∧ b < W.heap.size ∧ OwnI W lo hi v L
theorem It.new {W : World} {lo hi : Nat} {v : Value} {L : List Int} (h : OwnI W lo hi v L) (t : TypeId) : It (W.alloc (.cells #[v] t)) W.heap.size lo hi v L :=
  ⟨cell_new _ _ _, by simp, h.below (below1 _) h.2.1⟩
theorem It.next {W W' : World} {b lo hi : Nat} {v : Value} {L : List Int} (h : It W b lo hi v L) (hb : Below W.heap.size W W') : It W' b lo hi v L :=
  ⟨(hb.cell (p := ⟨b, 0, none⟩) h.2.1).trans h.1, Nat.lt_of_lt_of_le h.2.1 hb.size, h.2.2.below hb h.2.2.2.1⟩
theorem It.far {W W' : World} {b lo hi lo2 hi2 : Nat} {v v2 : Value} {L M : List Int} (h : It W b lo hi v L) (hO : OwnI W lo2 hi2 v2 M) (hg : W.grownBy W' v2.ownBlock) (q1 : b < lo2 ∨ hi2 ≤ b) (q2 : hi ≤ lo2 ∨ hi2 ≤ lo) : It W' b lo hi v L := by
  obtain ⟨h1, h2, h3⟩ := h
  have hlo : ∀ g, v2.ownBlock = some g → lo2 ≤ g ∧ g < hi2 := fun g hg => ⟨(hO.1.lt g hg).1, hO.2.2 g hg⟩
  refine ⟨hg.cell h1 fun e => ?_, Nat.lt_of_lt_of_le h2 hg.size, h3.grown hg fun g e => ?_⟩
  · have := hlo b e.symm; omega
  · have := hlo g e; omega
theorem It.mark {W W' : World} {b lo hi : Nat} {v : Value} {L M : List Int} (h : It W b lo hi v L) (hO : OwnI W' lo hi v M) (hg : W.grownBy W' v.ownBlock) (q : b < lo ∨ hi ≤ b) : It W' b lo hi v M := by
  obtain ⟨h1, h2, h3⟩ := h
  refine ⟨hg.cell h1 fun e => ?_, Nat.lt_of_lt_of_le h2 hg.size, hO⟩
  have h4 := (h3.1.lt b e.symm).1
  have h5 := h3.2.2 b e.symm
  omega
theorem It.rd {W : World} {b lo hi n c : Nat} {A : Option Addr} {L : List Int} (h : It W b lo hi (.slice A n c) L) : RdI W W.heap.size A L := by
  obtain ⟨A', c', e, hr⟩ := h.2.2.rd
  injection e with e _ _
  subst e; exact hr
/-- the argument's box, and what was there before -/
def Ar (w W : World) (v : Value) : Prop := Below w.heap.size w W ∧ W.cell? ⟨w.heap.size, 0, none⟩ = some v ∧ w.heap.size < W.heap.size
theorem Ar.next {w W W' : World} {v : Value} (h : Ar w W v) (hb : Below W.heap.size W W') : Ar w W' v := box_next h.1 h.2.1 h.2.2 hb
theorem Ar.far {w W W' : World} {v v2 : Value} {lo2 hi2 : Nat} {M : List Int} (h : Ar w W v) (hO : OwnI W lo2 hi2 v2 M) (hg : W.grownBy W' v2.ownBlock) (q : w.heap.size < lo2) : Ar w W' v := by
  obtain ⟨h1, h2, h3⟩ := h
  have hlo : ∀ g, v2.ownBlock = some g → lo2 ≤ g := fun g hg => (hO.1.lt g hg).1
  refine ⟨h1.trans (below_of_grown hg h1.size fun g e => by have := hlo g e; omega), hg.cell h2 fun e => ?_, Nat.lt_of_lt_of_le h3 hg.size⟩
  have := hlo w.heap.size e.symm; omega
end Go.Proofs.YtdmdkpjeeajkpaaDoor

