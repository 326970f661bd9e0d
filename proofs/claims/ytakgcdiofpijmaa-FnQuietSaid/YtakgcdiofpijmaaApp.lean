/- A row of the call's own, one element appended: what it holds then, and what was there before. No conditions. -/
import Derived.Test.YtakgcdiofpijmaaOwn
import Derived.Deep.AppendLies
namespace Go.Proofs.Ytakgcdiofpijmaa
open Go.RowKit
theorem ints_toI_snoc (L : List Nat) (m : Nat) : ints (Sw.toI (L ++ [m])) = ints (Sw.toI L) ++ [.int .i64 (m : Int)] := by unfold Sw.toI ints; simp
/-- a row from block B + 1 on, beside a box at block B -/
theorem append_step {w wr w2 : World} {o : Obj} {v u : Value} {B g cap n : Nat} {L : List Nat} {m : Nat} (hb : Below B w wr) (hc : wr.cell? ⟨B, 0, none⟩ = some u) (hz : B < wr.heap.size)
    (hO : wr.ownsRow (B + 1) 3 1 v n (ints (Sw.toI L))) (hn : n = L.length)
    (hown : w2.ownsRow (B + 1) 3 1 (.slice (some ⟨g, 0, none⟩) (n + 1) cap) (n + 1) (ints (Sw.toI L) ++ [.int .i64 (m : Int)])) (hg : (wr.alloc o).grownBy w2 v.ownBlock) :
    OwnI w2 (B + 1) w2.heap.size (.slice (some ⟨g, 0, none⟩) (n + 1) cap) (Sw.toI (L ++ [m])) ∧ Below B w w2 ∧ w2.cell? ⟨B, 0, none⟩ = some u ∧ B < w2.heap.size := by
  subst hn
  have hr : ∀ g, v.ownBlock = some g → B + 1 ≤ g := fun g h => (hO.lt g h).1
  have hs : (wr.alloc o).heap.size = wr.heap.size + 1 := by simp
  have key : ∀ k, k < B + 1 → w2.heap[k]? = wr.heap[k]? := fun k hk => (hg.block k (by omega) (fun e => by have := hr k e.symm; omega)).trans (Below.heap_alloc wr o k (by omega))
  have hsz := hg.size
  refine ⟨OwnI.own ?_, hb.trans ⟨hg.os, hg.tape, hg.output, by omega, fun k hk => key k (by omega)⟩, (World.cell?_of_block (key B (by omega))).trans hc, by omega⟩
  rw [ints_toI_snoc, Sw.toI_len, List.length_append]
  exact hown
end Go.Proofs.Ytakgcdiofpijmaa

