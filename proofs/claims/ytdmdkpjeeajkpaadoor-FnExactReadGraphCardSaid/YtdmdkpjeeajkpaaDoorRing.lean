/- RingOf of the program and of the reference, each by its contract. No conditions. -/
import Derived.Test.YtdmdkpjeeajkpaaDoorJoin
import Derived.Test.YtdmdkpjeeajkpaaDoorMath2
import Derived.Deep.AppendLies
import Derived.Deep.RegionLaw
namespace Go.Proofs.YtdmdkpjeeajkpaaDoor
open Go.RowKit
theorem free_after {w w1 : World} {v : Value} {t : TypeId} (h : Below (w.alloc (.cells #[v] t)).heap.size (w.alloc (.cells #[v] t)) w1) : w1.frozen? ⟨w.heap.size, 0, none⟩ = false := by
  rw [h.frozen (by simp)]; simp [go_sem]
/-- the last store: into the result's own cell -/
theorem OwnI.store_far {w : World} {lo hi : Nat} {v : Value} {l : List Int} (h : OwnI w lo hi v l) {b : Nat} (hb : b < lo) (u : Value) : OwnI (w.setCell ⟨b, 0, none⟩ u) lo hi v l := by
  have g1 : w.grownBy (w.setCell ⟨b, 0, none⟩ u) (some b) := ⟨rfl, rfl, rfl, by simp [World.setCell], fun k _ hk => Below.heap_setCell _ _ _ _ (fun e => hk (by rw [e]))⟩
  exact h.grown g1 (fun g h => by injection h with h; omega)
theorem frozen_setCell (w : World) (a b : Addr) (u : Value) : (w.setCell a u).frozen? b = w.frozen? b := by simp [go_sem]
/-- behind an append of one new element, what lay below the row's own blocks -/
theorem append_past {w wr w2 : World} {o : Obj} {row : Option Nat} {B : Nat} (hg : (wr.alloc o).grownBy w2 row) (hr : ∀ g, row = some g → B + 2 ≤ g) (hz : B + 1 < wr.heap.size) (hb : Below B w wr) :
    Below B w w2 ∧ wr.heap.size < w2.heap.size ∧ w2.cell? ⟨B, 0, none⟩ = wr.cell? ⟨B, 0, none⟩ ∧ w2.frozen? ⟨B, 0, none⟩ = wr.frozen? ⟨B, 0, none⟩ ∧ w2.cell? ⟨B + 1, 0, none⟩ = wr.cell? ⟨B + 1, 0, none⟩ ∧ w2.frozen? ⟨B + 1, 0, none⟩ = wr.frozen? ⟨B + 1, 0, none⟩ := by
  have hs : (wr.alloc o).heap.size = wr.heap.size + 1 := by simp
  have key : ∀ k, k < B + 2 → w2.heap[k]? = wr.heap[k]? := fun k hk => (hg.block k (by omega) (fun e => by have := hr k e.symm; omega)).trans (Below.heap_alloc wr o k (by omega))
  have hsz := hg.size
  exact ⟨hb.trans ⟨hg.os, hg.tape, hg.output, by omega, fun k hk => key k (by omega)⟩, by omega, World.cell?_of_block (key B (by omega)), World.frozen?_of_block (key B (by omega)), World.cell?_of_block (key (B + 1) (by omega)), World.frozen?_of_block (key (B + 1) (by omega))⟩
theorem ints_tab_succ (n : Nat) (f : Nat → Nat) : ints (Sw.toI (Sw.tab (n + 1) f)) = ints (Sw.toI (Sw.tab n f)) ++ [.int .i64 (f n : Nat)] := by
  rw [Sw.tab_succ]; unfold Sw.toI ints; simp
end Go.Proofs.YtdmdkpjeeajkpaaDoor

