/- Draws of a graph and of picks that need its length: what holds between them. No conditions. -/
import Derived.Test.YtakgcdiofpijmaaDrS2
import Derived.Deep.RegionHeld3
import Derived.Deep.DeepCutAuto
namespace Go.Proofs.Ytakgcdiofpijmaa
open Go.RowKit
/-- the reader, and the drawn graph in its box at b -/
def Dq (W1 W : World) (h : Nat) (A : Option Addr) (m c K b : Nat) (A1 : Option Addr) (n1 c1 : Nat) (l : List Int) : Prop :=
  W1.grownBy W (some h) ∧ (∃ p, p ≤ K ∧ Rdr W h A m c p) ∧ W.cell? ⟨b, 0, none⟩ = some (.slice A1 n1 c1) ∧ h < W1.heap.size ∧ W1.heap.size ≤ b ∧ l.length = n1 ∧ RdJ W W1.heap.size A1 l ∧ n1 ≤ 10
section
variable {w W1 W W' : World} {h m c K b n1 c1 p : Nat} {A A1 : Option Addr} {l : List Int}
theorem Dq.pick (g : Dq W1 W h A m c K b A1 n1 c1 l) (hR : Rdr W' h A m c p) (hg : W.grownBy W' (some h)) (hp : p ≤ K + 1) : Dq W1 W' h A m c (K + 1) b A1 n1 c1 l := by
  obtain ⟨g1, g2, g3, g4, g5, g6, g7, g8⟩ := g
  exact ⟨grow_trans g1 hg (fun q e => by injection e with e; exact Or.inr e.symm), ⟨p, hp, hR⟩, hg.cell g3 (by intro e; injection e with e; simp at e; omega), g4, g5, g6, g7.grown hg (fun q e => by injection e with e; omega), g8⟩
theorem Dq.draw (g : Dq W1 W h A m c K b A1 n1 c1 l) : Dq W1 W.drew h A m c K b A1 n1 c1 l := by
  obtain ⟨g1, g2⟩ := g
  exact ⟨grown_drew g1, g2⟩
theorem Dq.start (hh : h < W1.heap.size) (t : TypeId) {K' : Nat} (hg : W1.grownBy W (some h)) {p' : Nat} (hp' : p' ≤ K') (hR' : Rdr W h A m c p') (hl : l.length = n1) (hr : RdJ W W1.heap.size A1 l) (h10 : n1 ≤ 10) :
    Dq W1 (W.alloc (.cells #[.slice A1 n1 c1] t)) h A m c K' W.heap.size A1 n1 c1 l := by
  have ga := World.grownBy_alloc W (.cells #[.slice A1 n1 c1] t) none
  exact ⟨grow_trans hg ga (fun q e => by cases e), ⟨p', hp', hR'.grown ga (fun q e => by cases e)⟩, cell_new _ _ _, hh, hg.size, hl, hr.grown ga (fun q e => by cases e), h10⟩
theorem Dq.box (g : Dq W1 W h A m c K b A1 n1 c1 l) {z : Nat} {v : Value} (hh : z < h) (hc : W1.cell? ⟨z, 0, none⟩ = some v) (hf : W1.frozen? ⟨z, 0, none⟩ = false) : W.cell? ⟨z, 0, none⟩ = some v ∧ W.frozen? ⟨z, 0, none⟩ = false := by
  have h4 := g.2.2.2.1
  exact ⟨g.1.cell hc (by intro e; injection e with e; simp at e; omega), (grown_free (a := ⟨z, 0, none⟩) g.1 (by show z < _; omega) (by intro e; injection e with e; simp at e; omega)).trans hf⟩
theorem Dq.fin (g : Dq W1 W h A m c K b A1 n1 c1 l) (hb : Below w.heap.size w W1) (hz : w.heap.size < W1.heap.size) (hh : w.heap.size < h) (hc : W1.cell? ⟨w.heap.size, 0, none⟩ = some (.slice none 0 0)) :
    DrawG w (.returned (.agg #[.slice A1 n1 c1])) (W.setCell ⟨w.heap.size, 0, none⟩ (.slice A1 n1 c1)) ∧ (W.setCell ⟨w.heap.size, 0, none⟩ (.slice A1 n1 c1)).cell? ⟨w.heap.size, 0, none⟩ = some (.slice A1 n1 c1) ∧ (W.setCell ⟨w.heap.size, 0, none⟩ (.slice A1 n1 c1)).cell? ⟨b, 0, none⟩ = some (.slice A1 n1 c1) := by
  obtain ⟨g1, _, g3, g4, g5, g6, g7, g8⟩ := g
  have hg2 : W.grownBy (W.setCell ⟨w.heap.size, 0, none⟩ (.slice A1 n1 c1)) (some w.heap.size) := ⟨rfl, rfl, rfl, by simp [World.setCell], fun j _ hj => Below.heap_setCell _ _ _ _ (fun e => hj (by rw [e]))⟩
  obtain ⟨q1, q2⟩ := draw_end (c1 := c1) hb hz hh g1 g6 g8 g7 hc
  exact ⟨q1, q2, hg2.cell g3 (by intro e; injection e with e; simp at e; omega)⟩
theorem DrawG.parts {w W : World} {A1 : Option Addr} {n1 c1 : Nat} (h : DrawG w (.returned (.agg #[.slice A1 n1 c1])) W) : ∃ l : List Int, n1 = l.length ∧ l.length ≤ 10 ∧ RdI W W.heap.size A1 l ∧ Below w.heap.size w W := by
  obtain ⟨A2, c2, l2, e, q⟩ := h
  injection e with e
  injection e with e
  injection e with e
  injection e with e _
  injection e with e1 e2 e3
  subst e1 e3
  exact ⟨l2, e2, q⟩
end
end Go.Proofs.Ytakgcdiofpijmaa

