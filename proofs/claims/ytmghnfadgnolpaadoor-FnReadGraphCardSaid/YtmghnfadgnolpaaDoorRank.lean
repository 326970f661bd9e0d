/- RankOf of the program and of the reference, each by its contract. No conditions. -/
import Derived.Test.YtmghnfadgnolpaaDoorJoin
import Derived.Test.YtmghnfadgnolpaaDoorMath3
import Derived.Deep.AppendLies
import Derived.Deep.RegionLaw
namespace Go.Proofs.YtmghnfadgnolpaaDoor
open Go.RowKit
/-- the call's own copy of the rows, and what was there before -/
def RI (w wr : World) (hi n : Nat) (f : Nat → Nat) : Prop := OwnF wr w.heap.size hi (.slice (some ⟨w.heap.size, 0, none⟩) n n) n f ∧ Below w.heap.size w wr ∧ w.heap.size < hi
theorem RI.cells {w wr : World} {hi n : Nat} {f : Nat → Nat} (h : RI w wr hi n f) (k : Nat) (hk : k < n) : wr.cell? ⟨w.heap.size, k, none⟩ = some (.int .i64 (f k : Nat)) ∧ wr.frozen? ⟨w.heap.size, k, none⟩ = false := by
  obtain ⟨g', c', e, _, _, hc⟩ := h.1.form (by omega)
  injection e with e1 _ _
  injection e1 with e1
  injection e1 with e1 _ _
  subst e1
  exact hc k hk
theorem RI.put {w wr : World} {hi n : Nat} {f : Nat → Nat} (h : RI w wr hi n f) (k x : Nat) (y : Int) (hy : y = (x : Nat)) : RI w (wr.setCell ⟨w.heap.size, k, none⟩ (.int .i64 y)) hi n (fun j => if j = k then x else f j) := by
  subst hy
  obtain ⟨hO, hb, hz⟩ := h
  obtain ⟨h1, h2⟩ := hO.set k x
  exact ⟨h1, hb.trans (below_of_grown h2 hb.size (fun g h => by injection h with h; omega)), hz⟩
theorem RI.draw {w wr : World} {hi n : Nat} {f : Nat → Nat} (h : RI w wr hi n f) : RI w wr.drew hi n f := ⟨h.1, bdr h.2.1 1, h.2.2⟩
theorem RI.rd {w wr : World} {hi n : Nat} {f : Nat → Nat} (h : RI w wr hi n f) : RdI wr wr.heap.size (some ⟨w.heap.size, 0, none⟩) (Sw.toI (Sw.tab n f)) := by
  obtain ⟨A, c, e, hr⟩ := h.1.rd
  injection e with e1 e2 _
  subst e1
  exact hr
theorem RI.congr {w wr : World} {hi n : Nat} {f g : Nat → Nat} (h : RI w wr hi n f) (e : ∀ k, k < n → f k = g k) : RI w wr hi n g := by
  obtain ⟨hO, hb, hz⟩ := h
  refine ⟨?_, hb, hz⟩
  unfold OwnF at hO ⊢
  rw [Sw.tab_congr e] at hO; exact hO
theorem then_on {F : Exit → Act → World → Prop} {e : Exit} {a : Act} {W : World} (R : World → Prop) (h : R W) (k : ∀ w2, R w2 → F e a w2) : F e a W := k W h
end Go.Proofs.YtmghnfadgnolpaaDoor

