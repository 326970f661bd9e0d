/- The draws of a graph, weak contracts: a list of at most ten ints. Conditions: at most 2^40 bytes. -/
import Derived.Test.YtmghnfadgnolpaaDoorRg
namespace Go.Proofs.YtmghnfadgnolpaaDoor
open Go.RowKit
def DrawG (w : World) (e : Ending) (w' : World) : Prop :=
  ∃ (A1 : Option Addr) (c1 : Nat) (l : List Int), e = .returned (.agg #[.slice A1 l.length c1]) ∧ l.length ≤ 10 ∧ RdI w' w'.heap.size A1 l ∧ Below w.heap.size w w'
theorem draw_end {w W1 W2 : World} {A1 : Option Addr} {n1 c1 h : Nat} {l : List Int} (hb : Below w.heap.size w W1) (hz : w.heap.size < W1.heap.size) (hh : w.heap.size < h) (hg : W1.grownBy W2 (some h)) (hl : l.length = n1) (h10 : n1 ≤ 10) (hr : RdJ W2 W1.heap.size A1 l)
    (hc : W1.cell? ⟨w.heap.size, 0, none⟩ = some (.slice none 0 0)) :
    DrawG w (.returned (.agg #[.slice A1 n1 c1])) (W2.setCell ⟨w.heap.size, 0, none⟩ (.slice A1 n1 c1)) ∧ (W2.setCell ⟨w.heap.size, 0, none⟩ (.slice A1 n1 c1)).cell? ⟨w.heap.size, 0, none⟩ = some (.slice A1 n1 c1) := by
  subst hl
  have hg2 : W2.grownBy (W2.setCell ⟨w.heap.size, 0, none⟩ (.slice A1 l.length c1)) (some w.heap.size) := ⟨rfl, rfl, rfl, by simp [World.setCell], fun j _ hj => Below.heap_setCell _ _ _ _ (fun e => hj (by rw [e]))⟩
  have hc2 : W2.cell? ⟨w.heap.size, 0, none⟩ = some (.slice none 0 0) := hg.cell hc (by intro e; injection e with e; simp at e; omega)
  have hs := hg.size
  have hb2 := hb.trans (below_of_grown (B := w.heap.size) hg hb.size (fun g e => by injection e with e; omega))
  refine ⟨⟨A1, c1, l, rfl, h10, (hr.grown hg2 (fun q e => by injection e with e; omega)).rd, hb2.trans (below_of_grown (B := w.heap.size) hg2 hb2.size (fun g e => by injection e with e; omega))⟩, World.cell?_setCell_same' _ _ _ (by rw [hc2]; rfl)⟩
theorem drawGraphText (A : Option Addr) (n c : Nat) (hn : n ≤ 1099511627776) (hc : n ≤ c) (w : World) (hB : RdB w w.heap.size A n) :
    Calls Tryd.prog 5 #[.slice A n c] w (DrawG w) := by
  have hB1 := hB.at_ (below1 (.cells #[.slice none 0 0] 25))
  go_enter Tryd.func5, Tryd.ntmps5
  go_wp2_with fail
  refine (l20Open A n c hn hc _ hB1).mono ?_
  rintro e W1 ⟨A', m, rfl, hR, hb⟩
  obtain ⟨hb1, hc1, hz1⟩ := box_after hb
  have hf1 : W1.frozen? ⟨w.heap.size, 0, none⟩ = false := by rw [hb.frozen (by simp)]; simp [go_sem]
  simp only [World.size_alloc] at hR
  go_wp2_with fail
  refine (l20Graph (w.heap.size + 1) m c 0 A' 6 (by omega) (by omega) _ hR).mono ?_
  rintro e W2 ⟨A1, n1, c1, p', l, rfl, h10, _, _, hg, hl, hr⟩
  have hc2 : W2.cell? ⟨w.heap.size, 0, none⟩ = some (.slice none 0 0) := hg.cell hc1 (by intro e; injection e with e; simp at e)
  have hf2 := (grown_free (a := ⟨w.heap.size, 0, none⟩) hg hz1 (by intro e; injection e with e; simp at e)).trans hf1
  have HE := Lib.hid (draw_end (c1 := c1) hb1 hz1 (by omega) hg hl h10 hr hc1)
  clear hR hg hr hl hb hb1 hc1 hf1 hB hB1
  go_wp2_with fail
  exact bodyPost_ret (v := .agg #[.slice A1 n1 c1]) (by have q := HE.out.2; simp [results, Tryd.results5, go_sem, q]) rfl HE.out.1
end Go.Proofs.YtmghnfadgnolpaaDoor

