/- GridOf of the program and of the reference, each by its contract. No conditions. -/
import Derived.Test.YtdmdkpjeeajkpaaDoorRing
namespace Go.Proofs.YtdmdkpjeeajkpaaDoor
open Go.RowKit
theorem made_zero {w1 : World} {B n : Nat} {v : Value} (h : w1.ownsRow B 3 1 v n (madeCells (Value.int .i64 0).cells (n * 1)).toList) : OwnF w1 B w1.heap.size v n (fun _ => 0) := by
  have := made_ints h
  have e : Sw.toI (Sw.tab n fun _ => 0) = List.replicate n 0 := by
    apply Sw.gat_ext (by rw [toI_tab_len, List.length_replicate])
    intro k hk
    rw [toI_tab_len] at hk
    rw [gat_toI_tab _ hk]
    unfold Sw.gat; simp [hk]
  unfold OwnF
  rw [e]; exact this
/-- the program's row, its result's cell, and what was there before -/
def GI (w wr : World) (hi n : Nat) (f : Nat → Nat) : Prop :=
  OwnF wr (w.heap.size + 1) hi (.slice (some ⟨w.heap.size + 1, 0, none⟩) n n) n f ∧ Below w.heap.size w wr ∧ wr.cell? ⟨w.heap.size, 0, none⟩ = some (.slice none 0 0) ∧ wr.frozen? ⟨w.heap.size, 0, none⟩ = false
theorem GI.join {w wr w2 : World} {hi n : Nat} {f g : Nat → Nat} (h : GI w wr hi n f) (hO : OwnF w2 (w.heap.size + 1) hi (.slice (some ⟨w.heap.size + 1, 0, none⟩) n n) n g) (hgr : wr.grownBy w2 (some (w.heap.size + 1))) : GI w w2 hi n g := by
  obtain ⟨_, hb, hc, hf⟩ := h
  refine ⟨hO, hb.trans (below_of_grown hgr hb.size (fun g h => by injection h with h; omega)), hgr.cell hc (by intro e; injection e with e; simp at e), ?_⟩
  rw [World.frozen?_of_block (hgr.block w.heap.size (World.block_lt_of_cell? wr _ hc) (by intro e; injection e with e; omega))]; exact hf
theorem GI.call {w wr : World} {hi n : Nat} {f : Nat → Nat} (h : GI w wr hi n f) (x y : Nat) (hx : x < n) (hy : y < n) (hxy : x ≠ y) (hn : n ≤ 9) (hf : ∀ k, f k < 2 ^ 9) :
    Calls Tryd.prog 18 #[.slice (some ⟨w.heap.size + 1, 0, none⟩) n n, .int .i64 x, .int .i64 y] wr fun e w' => e = .returned (.tuple #[]) ∧ GI w w' hi n (Sw.join f x y) :=
  (joinPoints wr _ hi n _ n f x y hx hy hxy hn (fun k _ => hf k) h.1).mono fun _ _ ⟨he, hO, hg⟩ => ⟨he, h.join hO hg⟩
theorem OwnI_no (w : World) {p q : Int} (hp : ¬ Sw.gridOk p q) : OwnI (w.alloc (.cells #[.slice none 0 0] 24)) w.heap.size (w.alloc (.cells #[.slice none 0 0] 24)).heap.size (.slice none 0 0) (Sw.vGrid p q) := by rw [Sw.vGrid_no hp]; exact OwnI.nil _
end Go.Proofs.YtdmdkpjeeajkpaaDoor

