/- What a draw of a graph holds on to: the reader, its answer's cell, the graph's box and row. No conditions. -/
import Derived.Test.YtmghnfadgnolpaaDoorRd2
import Derived.Test.YtmghnfadgnolpaaDoorGrid2
import Derived.Test.YtmghnfadgnolpaaDoorMath2
namespace Go.Proofs.YtmghnfadgnolpaaDoor
open Go.RowKit
theorem grown_free {w w' : World} {row : Option Nat} {a : Addr} (hg : w.grownBy w' row) (hb : a.block < w.heap.size) (hr : row ≠ some a.block) : w'.frozen? a = w.frozen? a :=
  World.frozen?_of_block (hg.block _ hb (fun e => hr e.symm))
theorem grow_trans {w W W' : World} {h : Nat} {row : Option Nat} (h1 : w.grownBy W (some h)) (h2 : W.grownBy W' row) (hr : ∀ b, row = some b → w.heap.size ≤ b ∨ b = h) : w.grownBy W' (some h) := by
  refine ⟨h2.os.trans h1.os, h2.tape.trans h1.tape, h2.output.trans h1.output, Nat.le_trans h1.size h2.size, fun k hk hne => ?_⟩
  refine (h2.block k (Nat.lt_of_lt_of_le hk h1.size) (fun e => ?_)).trans (h1.block k hk hne)
  rcases hr k e.symm with q | q
  · omega
  · subst q; exact hne rfl
/-- the reader is not touched by what is written elsewhere -/
theorem Rdr.grown {w w' : World} {h m c p : Nat} {A : Option Addr} {row : Option Nat} (hR : Rdr w h A m c p) (hg : w.grownBy w' row) (hr : ∀ b, row = some b → h < b) : Rdr w' h A m c p := by
  obtain ⟨h0, h1, h2, h3, h4, h5⟩ := hR
  have hne : ∀ b, b ≤ h → row ≠ some b := fun b hb e => by have := hr b e; omega
  refine ⟨hg.cell h0 (fun e => hne h (Nat.le_refl _) e.symm), hg.cell h1 (fun e => hne h (Nat.le_refl _) e.symm), (grown_free hg h5 (hne h (Nat.le_refl _))).trans h2, fun k hk => ?_, h4, Nat.lt_of_lt_of_le h5 hg.size⟩
  obtain ⟨ad, x, e, q1, q2, q3, q4⟩ := h3 k hk
  exact ⟨ad, x, e, q1, q2, q3, hg.cell q4 (fun e => hne _ (by rw [add_block]; omega) e.symm)⟩
/-- the reader, and behind it a cell for the answer at block w.heap.size -/
def Gs0 (w W : World) (h : Nat) (A : Option Addr) (m c K : Nat) : Prop :=
  w.grownBy W (some h) ∧ (∃ p, p ≤ K ∧ Rdr W h A m c p) ∧ W.cell? ⟨w.heap.size, 0, none⟩ = some (.slice none 0 0) ∧ W.frozen? ⟨w.heap.size, 0, none⟩ = false ∧ h < w.heap.size
section
variable {w W W' : World} {h m c K p : Nat} {A : Option Addr} {row : Option Nat}
theorem Gs0.lt (g : Gs0 w W h A m c K) : w.heap.size < W.heap.size := World.block_lt_of_cell? W _ g.2.2.1
theorem Gs0.start (hR : Rdr w h A m c p) (t : TypeId) : Gs0 w (w.alloc (.cells #[.slice none 0 0] t)) h A m c p :=
  ⟨World.grownBy_alloc w _ _, ⟨p, Nat.le_refl _, hR.grown (World.grownBy_alloc w _ none) (fun b e => by cases e)⟩, cell_new _ _ _, free_new _ _ _, hR.2.2.2.2.2⟩
theorem Gs0.mono {K' : Nat} (g : Gs0 w W h A m c K) (hK : K ≤ K') : Gs0 w W h A m c K' := by
  obtain ⟨g1, ⟨p, hp, hR⟩, r⟩ := g
  exact ⟨g1, ⟨p, by omega, hR⟩, r⟩
/-- behind a pick -/
theorem Gs0.pick (g : Gs0 w W h A m c K) (hR : Rdr W' h A m c p) (hg : W.grownBy W' (some h)) (hp : p ≤ K + 1) : Gs0 w W' h A m c (K + 1) := by
  obtain ⟨g1, _, g3, g4, g5⟩ := g
  have hlt : w.heap.size < W.heap.size := World.block_lt_of_cell? W _ g3
  have hne : (some h : Option Nat) ≠ some w.heap.size := by intro e; injection e with e; omega
  exact ⟨grow_trans g1 hg (fun b e => by injection e with e; omega), ⟨p, hp, hR⟩, hg.cell g3 (fun e => hne e.symm), (grown_free hg hlt hne).trans g4, g5⟩
/-- behind what is new, and writes to new blocks alone -/
theorem Gs0.grown (g : Gs0 w W h A m c K) (hg : W.grownBy W' row) (hr : ∀ b, row = some b → w.heap.size < b) : Gs0 w W' h A m c K := by
  obtain ⟨g1, ⟨p, hp, hR⟩, g3, g4, g5⟩ := g
  have hlt : w.heap.size < W.heap.size := World.block_lt_of_cell? W _ g3
  have hne : row ≠ some w.heap.size := fun e => by have := hr _ e; omega
  exact ⟨grow_trans g1 hg (fun b e => by have := hr b e; omega), ⟨p, hp, hR.grown hg (fun b e => by have := hr b e; omega)⟩, hg.cell g3 (fun e => hne e.symm), (grown_free hg hlt hne).trans g4, g5⟩
/-- the graph's box at b, and its row -/
def Gst (w W : World) (h : Nat) (A : Option Addr) (m c K b : Nat) (A1 : Option Addr) (n c1 : Nat) : Prop :=
  Gs0 w W h A m c K ∧ W.cell? ⟨b, 0, none⟩ = some (.slice A1 n c1) ∧ W.frozen? ⟨b, 0, none⟩ = false ∧ w.heap.size < b ∧ ∃ (L : List Int) (lo hi : Nat), L.length = n ∧ OwnI W lo hi (.slice A1 n c1) L ∧ w.heap.size < lo ∧ (hi ≤ b ∨ b < lo)
variable {b n c1 : Nat} {A1 : Option Addr}
theorem Gst.mono {K' : Nat} (g : Gst w W h A m c K b A1 n c1) (hK : K ≤ K') : Gst w W h A m c K' b A1 n c1 := ⟨g.1.mono hK, g.2⟩
theorem Gst.start {N : Nat} {L : List Int} (g : Gs0 w W h A m c K) (hO : OwnI W' W.heap.size W'.heap.size (.slice (some ⟨W.heap.size, 0, none⟩) N N) L) (hL : L.length = N) (hg : W.grownBy W' none) (t : TypeId) :
    Gst w (W'.alloc (.cells #[.slice (some ⟨W.heap.size, 0, none⟩) N N] t)) h A m c K W'.heap.size (some ⟨W.heap.size, 0, none⟩) N N := by
  have h1 := g.lt
  have h2 := hg.size
  have ga := World.grownBy_alloc W' (.cells #[.slice (some ⟨W.heap.size, 0, none⟩) N N] t) none
  refine ⟨(g.grown hg (fun b e => by cases e)).grown ga (fun b e => by cases e), cell_new _ _ _, free_new _ _ _, by omega, L, W.heap.size, W'.heap.size, hL, ?_, h1, .inl (Nat.le_refl _)⟩
  exact hO.grown ga (fun b e => by cases e)
theorem Gst.pick (g : Gst w W h A m c K b A1 n c1) (hR : Rdr W' h A m c p) (hg : W.grownBy W' (some h)) (hp : p ≤ K + 1) : Gst w W' h A m c (K + 1) b A1 n c1 := by
  obtain ⟨g1, g2, g3, g4, L, lo, hi, hL, hO, hlo, hd⟩ := g
  have hb := World.block_lt_of_cell? W _ g2
  have hh := g1.2.2.2.2
  have hne : (some h : Option Nat) ≠ some b := by intro e; injection e with e; omega
  exact ⟨g1.pick hR hg hp, hg.cell g2 (fun e => hne e.symm), (grown_free hg hb hne).trans g3, g4, L, lo, hi, hL, hO.grown hg (fun q e => by injection e with e; omega), hlo, hd⟩
/-- the row's element k written -/
theorem Gst.put {r : Nat} (g : Gst w W h A m c K b (some ⟨r, 0, none⟩) n c1) (k : Nat) (x : Int) : Gst w ((W.setCell ⟨r, k, none⟩ (.int .i64 x)).drew) h A m c K b (some ⟨r, 0, none⟩) n c1 := by
  obtain ⟨g1, g2, g3, g4, L, lo, hi, hL, hO, hlo, hd⟩ := g
  subst hL
  obtain ⟨h1, h2⟩ := hO.set k x
  have h2' := grown_drew h2
  have hr1 := (hO.1.lt r rfl).1
  have hr2 := hO.2.2 r rfl
  have hb := World.block_lt_of_cell? W _ g2
  have hne : (some r : Option Nat) ≠ some b := by intro e; injection e with e; omega
  rw [List.length_set] at h1
  exact ⟨g1.grown h2' (fun q e => by injection e with e; omega), h2'.cell g2 (fun e => hne e.symm), (grown_free h2' hb hne).trans g3, g4, L.set k x, lo, hi, by rw [List.length_set], h1, hlo, hd⟩
/-- another row into the box -/
theorem Gst.store {A2 : Option Addr} {n2 c2 : Nat} {L2 : List Int} (g : Gst w W h A m c K b A1 n c1) (hb : Below W.heap.size W W') (hO : OwnI W' W.heap.size W'.heap.size (.slice A2 n2 c2) L2) (hL : L2.length = n2) :
    Gst w (W'.setCell ⟨b, 0, none⟩ (.slice A2 n2 c2)) h A m c K b A2 n2 c2 := by
  obtain ⟨g1, g2, g3, g4, L, lo, hi, _, _, hlo, hd⟩ := g
  have hbl := World.block_lt_of_cell? W _ g2
  have hg : W.grownBy W' none := ⟨hb.os, hb.tape, hb.output, hb.size, fun k hk _ => hb.block k hk⟩
  have hg2 : W'.grownBy (W'.setCell ⟨b, 0, none⟩ (.slice A2 n2 c2)) (some b) := ⟨rfl, rfl, rfl, by simp [World.setCell], fun j _ hj => Below.heap_setCell _ _ _ _ (fun e => hj (by rw [e]))⟩
  have hc2 : W'.cell? ⟨b, 0, none⟩ = some (.slice A1 n c1) := (hb.cell (p := ⟨b, 0, none⟩) hbl).trans g2
  refine ⟨(g1.grown hg (fun q e => by cases e)).grown hg2 (fun q e => by injection e with e; omega), World.cell?_setCell_same' _ _ _ (by rw [hc2]; rfl), ?_, g4, L2, W.heap.size, W'.heap.size, hL, hO.grown hg2 (fun q e => by injection e with e; have hbl' : b < W.heap.size := hbl; omega), g1.lt, .inr hbl⟩
  rw [frozen_setCell]
  exact (hb.frozen (p := ⟨b, 0, none⟩) hbl).trans g3
end
/-- a list of ints in a block from lo on -/
def RdJ (w : World) (lo : Nat) (A : Option Addr) (l : List Int) : Prop := ∀ k, k < l.length → ∃ ad, A = some ad ∧ lo ≤ ad.block ∧ ad.block < w.heap.size ∧ w.cell? (ad.add k) = some (.int .i64 (Sw.gat l k))
theorem RdJ.rd {w : World} {lo : Nat} {A : Option Addr} {l : List Int} (h : RdJ w lo A l) : RdI w w.heap.size A l := fun k hk => by
  obtain ⟨ad, e, _, h2, h3⟩ := h k hk
  exact ⟨ad, e, h2, h3⟩
theorem RdJ.grown {w w' : World} {lo : Nat} {A : Option Addr} {l : List Int} {row : Option Nat} (h : RdJ w lo A l) (hg : w.grownBy w' row) (hr : ∀ b, row = some b → b < lo) : RdJ w' lo A l := fun k hk => by
  obtain ⟨ad, e, h1, h2, h3⟩ := h k hk
  refine ⟨ad, e, h1, Nat.lt_of_lt_of_le h2 hg.size, hg.cell h3 (fun e => ?_)⟩
  rw [add_block] at e
  have := hr _ e.symm
  omega
theorem RdJ.of {w : World} {lo hi lo2 : Nat} {A : Option Addr} {n c : Nat} {l : List Int} (h : OwnI w lo hi (.slice A n c) l) (hl : lo2 ≤ lo) : RdJ w lo2 A l := fun k hk => by
  obtain ⟨g, c', e, h1, h2, h3⟩ := h.form (by omega)
  injection e with e _ _
  refine ⟨⟨g, 0, none⟩, e, by show lo2 ≤ g; omega, by show g < _; have := h.2.1; omega, ?_⟩
  have := (h3 k hk).1
  by_cases q : k = 0
  · subst q; simpa [Addr.add] using this
  · simpa [Addr.add, q] using this
def GraphPost (w : World) (h : Nat) (A : Option Addr) (m c K : Nat) (e : Ending) (w' : World) : Prop :=
  ∃ (A1 : Option Addr) (n1 c1 p' : Nat) (l : List Int), e = .returned (.agg #[.slice A1 n1 c1]) ∧ n1 ≤ 10 ∧ p' ≤ K ∧ Rdr w' h A m c p' ∧ w.grownBy w' (some h) ∧ l.length = n1 ∧ RdJ w' w.heap.size A1 l
/-- the answer laid into its cell -/
theorem Gs0.fin {w W : World} {h m c K : Nat} {A : Option Addr} (g : Gs0 w W h A m c K) {A1 : Option Addr} {n1 c1 : Nat} {l : List Int} (hl : l.length = n1) (h10 : n1 ≤ 10) (hr : RdJ W (w.heap.size + 1) A1 l) :
    GraphPost w h A m c K (.returned (.agg #[.slice A1 n1 c1])) (W.setCell ⟨w.heap.size, 0, none⟩ (.slice A1 n1 c1)) ∧ (W.setCell ⟨w.heap.size, 0, none⟩ (.slice A1 n1 c1)).cell? ⟨w.heap.size, 0, none⟩ = some (.slice A1 n1 c1) := by
  obtain ⟨g1, ⟨p, hp, hR⟩, g3, g4, g5⟩ := g
  have hg2 : W.grownBy (W.setCell ⟨w.heap.size, 0, none⟩ (.slice A1 n1 c1)) (some w.heap.size) := ⟨rfl, rfl, rfl, by simp [World.setCell], fun j _ hj => Below.heap_setCell _ _ _ _ (fun e => hj (by rw [e]))⟩
  refine ⟨⟨A1, n1, c1, p, l, rfl, h10, hp, hR.grown hg2 (fun q e => by injection e with e; omega), grow_trans g1 hg2 (fun q e => by injection e with e; omega), hl, ?_⟩, World.cell?_setCell_same' _ _ _ (by rw [g3]; rfl)⟩
  have := hr.grown hg2 (fun q e => by injection e with e; omega)
  exact fun k hk => by obtain ⟨ad, e, h1, r⟩ := this k hk; exact ⟨ad, e, by omega, r⟩
theorem Gst.fin {w W : World} {h m c K b n c1 : Nat} {A A1 : Option Addr} (g : Gst w W h A m c K b A1 n c1) (h10 : n ≤ 10) :
    GraphPost w h A m c K (.returned (.agg #[.slice A1 n c1])) (W.setCell ⟨w.heap.size, 0, none⟩ (.slice A1 n c1)) ∧ (W.setCell ⟨w.heap.size, 0, none⟩ (.slice A1 n c1)).cell? ⟨w.heap.size, 0, none⟩ = some (.slice A1 n c1) := by
  obtain ⟨g1, _, _, _, L, lo, hi, hL, hO, hlo, _⟩ := g
  exact g1.fin hL h10 (RdJ.of hO (by omega))
end Go.Proofs.YtmghnfadgnolpaaDoor

