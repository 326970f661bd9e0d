/- What a draw of a list holds on to: the reader, the drawn graph in its box, the list so far. No conditions. -/
import Derived.Test.YtooohgjmomhjoaaDp
import Derived.Test.YtooohgjmomhjoaaApp
import Derived.Deep.OwnRows
namespace Go.Proofs.Ytooohgjmomhjoaa
open Go.RowKit
/-- an empty literal -/
theorem lit0 (w : World) : OwnI (w.alloc (.cells #[] 3)) w.heap.size (w.alloc (.cells #[] 3)).heap.size (.slice (some ⟨w.heap.size, 0, none⟩) 0 0) [] := by
  have := World.ownsRow_lit w (e := 3) (base := w.heap.size) (size := 1) #[] 0 (Nat.le_refl _) (by unfold maxLen; omega) rfl
  exact OwnI.own this
/-- a row of zeros -/
theorem zero_row (w : World) (n : Nat) (hn : n ≤ maxLen) : OwnI (w.alloc (.cells (madeCells #[.int .i64 0] n) 3)) w.heap.size (w.alloc (.cells (madeCells #[.int .i64 0] n) 3)).heap.size (.slice (some ⟨w.heap.size, 0, none⟩) n n) (List.replicate n 0) := by
  have hs : (madeCells #[Value.int .i64 0] n).size = n * 1 := by rw [← Array.length_toList, toList_madeCells_one, List.length_replicate, Nat.mul_one]
  have := World.ownsRow_lit w (e := 3) (base := w.heap.size) (size := 1) (madeCells #[Value.int .i64 0] n) n (Nat.le_refl _) hn hs
  have e : (madeCells #[Value.int .i64 0] n).toList = ints (List.replicate n 0) := by
    rw [toList_madeCells_one]; unfold ints; rw [List.map_replicate]
  rw [e] at this
  refine OwnI.own ?_
  rw [List.length_replicate]; exact this
/-- one element more -/
theorem append_int {lo n cap g : Nat} {wr w2 : World} {o : Obj} {v : Value} {L : List Int} {x : Int} (hn : L.length = n)
    (hown : w2.ownsRow lo 3 1 (.slice (some ⟨g, 0, none⟩) (n + 1) cap) (n + 1) (ints L ++ [.int .i64 x])) (hg : (wr.alloc o).grownBy w2 v.ownBlock) :
    OwnI w2 lo w2.heap.size (.slice (some ⟨g, 0, none⟩) (n + 1) cap) (L ++ [x]) ∧ wr.grownBy w2 v.ownBlock := by
  subst hn
  refine ⟨OwnI.own ?_, (World.grownBy_alloc wr o _).trans hg⟩
  rw [ints_snoc, List.length_append]
  exact hown
def RdK (w : World) (lo hi : Nat) (A : Option Addr) (l : List Int) : Prop := ∀ k, k < l.length → ∃ ad, A = some ad ∧ lo ≤ ad.block ∧ ad.block < hi ∧ w.cell? (ad.add k) = some (.int .i64 (Sw.gat l k))
theorem RdK.grown {w w' : World} {lo hi : Nat} {A : Option Addr} {l : List Int} {row : Option Nat} (h : RdK w lo hi A l) (hg : w.grownBy w' row) (hr : ∀ b, row = some b → b < lo ∨ hi ≤ b) : RdK w' lo hi A l := fun k hk => by
  obtain ⟨ad, e, h1, h2, h3⟩ := h k hk
  refine ⟨ad, e, h1, h2, hg.cell h3 (fun e => ?_)⟩
  rw [add_block] at e
  have := hr _ e.symm
  omega
theorem RdK.rd {w : World} {lo hi : Nat} {A : Option Addr} {l : List Int} (h : RdK w lo hi A l) (hh : hi ≤ w.heap.size) : RdI w w.heap.size A l := fun k hk => by
  obtain ⟨ad, e, _, h2, h3⟩ := h k hk
  exact ⟨ad, e, by omega, h3⟩
/-- the reader, the drawn graph in its box at b, the list behind it -/
def Dz (W1 W : World) (h : Nat) (A : Option Addr) (m c K b : Nat) (A1 : Option Addr) (n1 c1 : Nat) (l : List Int) (A2 : Option Addr) (n2 c2 : Nat) (P : List Int) : Prop :=
  W1.grownBy W (some h) ∧ (∃ p, p ≤ K ∧ Rdr W h A m c p) ∧ W.cell? ⟨b, 0, none⟩ = some (.slice A1 n1 c1) ∧ h < W1.heap.size ∧ W1.heap.size ≤ b ∧ l.length = n1 ∧ RdK W W1.heap.size b A1 l ∧ n1 ≤ 10 ∧ OwnI W (b + 1) W.heap.size (.slice A2 n2 c2) P ∧ P.length = n2
section
variable {w W1 W W' : World} {h m c K b n1 c1 n2 c2 p : Nat} {A A1 A2 : Option Addr} {l P : List Int}
theorem Dz.pick (g : Dz W1 W h A m c K b A1 n1 c1 l A2 n2 c2 P) (hR : Rdr W' h A m c p) (hg : W.grownBy W' (some h)) (hp : p ≤ K + 1) : Dz W1 W' h A m c (K + 1) b A1 n1 c1 l A2 n2 c2 P := by
  obtain ⟨g1, g2, g3, g4, g5, g6, g7, g8, g9, g10⟩ := g
  exact ⟨grow_trans g1 hg (fun q e => by injection e with e; exact Or.inr e.symm), ⟨p, hp, hR⟩, hg.cell g3 (by intro e; injection e with e; simp at e; omega), g4, g5, g6, g7.grown hg (fun q e => by injection e with e; omega), g8, (g9.grown hg (fun q e => by injection e with e; omega)).up, g10⟩
theorem Dz.mono {K' : Nat} (g : Dz W1 W h A m c K b A1 n1 c1 l A2 n2 c2 P) (hK : K ≤ K') : Dz W1 W h A m c K' b A1 n1 c1 l A2 n2 c2 P := by
  obtain ⟨g1, ⟨p, hp, hR⟩, g3⟩ := g
  exact ⟨g1, ⟨p, by omega, hR⟩, g3⟩
theorem Dz.draw (g : Dz W1 W h A m c K b A1 n1 c1 l A2 n2 c2 P) : Dz W1 W.drew h A m c K b A1 n1 c1 l A2 n2 c2 P := by
  obtain ⟨g1, g2⟩ := g
  exact ⟨grown_drew g1, g2⟩
theorem Dz.start (hh : h < W1.heap.size) (t : TypeId) {K' : Nat} (hg : W1.grownBy W (some h)) {p' : Nat} (hp' : p' ≤ K') (hR' : Rdr W h A m c p') (hl : l.length = n1) (hr : RdJ W W1.heap.size A1 l) (h10 : n1 ≤ 10) :
    Dz W1 ((W.alloc (.cells #[.slice A1 n1 c1] t)).alloc (.cells #[] 3)) h A m c K' W.heap.size A1 n1 c1 l (some ⟨W.heap.size + 1, 0, none⟩) 0 0 [] := by
  have ga := World.grownBy_alloc W (.cells #[.slice A1 n1 c1] t) none
  have gb := World.grownBy_alloc (W.alloc (.cells #[.slice A1 n1 c1] t)) (.cells #[] 3) none
  have gab := ga.trans gb
  have hlit := lit0 (W.alloc (.cells #[.slice A1 n1 c1] t))
  simp only [World.size_alloc] at hlit
  refine ⟨grow_trans hg gab (fun q e => by cases e), ⟨p', hp', hR'.grown gab (fun q e => by cases e)⟩, gb.cell (cell_new _ _ _) (by intro e; cases e), hh, hg.size, hl, ?_, h10, hlit.up, rfl⟩
  exact RdK.grown (fun k hk => hr k hk) gab (fun q e => by cases e)
theorem Dz.add {w2 : World} {g' cap : Nat} {o : Obj} {x : Int} (g : Dz W1 W h A m c K b A1 n1 c1 l A2 n2 c2 P)
    (hown : w2.ownsRow (b + 1) 3 1 (.slice (some ⟨g', 0, none⟩) (n2 + 1) cap) (n2 + 1) (ints P ++ [.int .i64 x])) (hg : (W.alloc o).grownBy w2 (Value.ownBlock (.slice A2 n2 c2))) :
    Dz W1 w2 h A m c K b A1 n1 c1 l (some ⟨g', 0, none⟩) (n2 + 1) cap (P ++ [x]) := by
  obtain ⟨g1, ⟨p, hp, hR⟩, g3, g4, g5, g6, g7, g8, g9, g10⟩ := g
  obtain ⟨q1, q2⟩ := append_int g10 hown hg
  have hlo : ∀ q, Value.ownBlock (.slice A2 n2 c2) = some q → b + 1 ≤ q := fun q e => (g9.1.lt q e).1
  exact ⟨grow_trans g1 q2 (fun q e => by have := hlo q e; omega), ⟨p, hp, hR.grown q2 (fun q e => by have := hlo q e; omega)⟩, q2.cell g3 (by intro e; have := hlo _ e.symm; simp at this; omega), g4, g5, g6, g7.grown q2 (fun q e => by have := hlo q e; omega), g8, q1, by simp [g10]⟩
theorem Dz.row {w2 : World} {A3 : Option Addr} {n3 c3 : Nat} {P3 : List Int} (g : Dz W1 W h A m c K b A1 n1 c1 l A2 n2 c2 P) (hg : W.grownBy w2 none) (hO : OwnI w2 W.heap.size w2.heap.size (.slice A3 n3 c3) P3) (hn : P3.length = n3) :
    Dz W1 w2 h A m c K b A1 n1 c1 l A3 n3 c3 P3 := by
  obtain ⟨g1, ⟨p, hp, hR⟩, g3, g4, g5, g6, g7, g8, g9, g10⟩ := g
  have hb : b < W.heap.size := World.block_lt_of_cell? W _ g3
  exact ⟨grow_trans g1 hg (fun q e => by cases e), ⟨p, hp, hR.grown hg (fun q e => by cases e)⟩, hg.cell g3 (by intro e; cases e), g4, g5, g6, g7.grown hg (fun q e => by cases e), g8, hO.lo_ (by omega), hn⟩
theorem Dz.box (g : Dz W1 W h A m c K b A1 n1 c1 l A2 n2 c2 P) {z : Nat} {v : Value} (hh : z < h) (hc : W1.cell? ⟨z, 0, none⟩ = some v) (hf : W1.frozen? ⟨z, 0, none⟩ = false) : W.cell? ⟨z, 0, none⟩ = some v ∧ W.frozen? ⟨z, 0, none⟩ = false := by
  have h4 := g.2.2.2.1
  exact ⟨g.1.cell hc (by intro e; injection e with e; simp at e; omega), (grown_free (a := ⟨z, 0, none⟩) g.1 (by show z < _; omega) (by intro e; injection e with e; simp at e; omega)).trans hf⟩
/-- what a draw of a graph and a list ends in -/
def Fz (w W : World) (A1 : Option Addr) (n1 c1 : Nat) (l : List Int) (A2 : Option Addr) (P : List Int) : Prop :=
  Below w.heap.size w W ∧ l.length = n1 ∧ RdI W W.heap.size A1 l ∧ RdI W W.heap.size A2 P ∧ W.cell? ⟨w.heap.size, 0, none⟩ = some (.slice A1 n1 c1)
theorem Dz.fin (g : Dz W1 W h A m c K b A1 n1 c1 l A2 n2 c2 P) (hb : Below w.heap.size w W1) (hz : w.heap.size < W1.heap.size) (hh : w.heap.size < h) (hc : W.cell? ⟨w.heap.size, 0, none⟩ = some (.slice none 0 0)) :
    Fz w (W.setCell ⟨w.heap.size, 0, none⟩ (.slice A1 n1 c1)) A1 n1 c1 l A2 P ∧ (W.setCell ⟨w.heap.size, 0, none⟩ (.slice A1 n1 c1)).cell? ⟨b, 0, none⟩ = some (.slice A1 n1 c1) := by
  obtain ⟨g1, _, g3, g4, g5, g6, g7, g8, g9, g10⟩ := g
  have hg2 : W.grownBy (W.setCell ⟨w.heap.size, 0, none⟩ (.slice A1 n1 c1)) (some w.heap.size) := ⟨rfl, rfl, rfl, by simp [World.setCell], fun j _ hj => Below.heap_setCell _ _ _ _ (fun e => hj (by rw [e]))⟩
  have hb2 := hb.trans (below_of_grown (B := w.heap.size) g1 hb.size (fun q e => by injection e with e; omega))
  have hbW : b < W.heap.size := World.block_lt_of_cell? W _ g3
  have h7 := g7.grown hg2 (fun q e => by injection e with e; omega)
  have h9 := g9.grown hg2 (fun q e => by injection e with e; omega)
  obtain ⟨A', c', e, hr⟩ := h9.rd
  injection e with e _ _
  subst e
  exact ⟨⟨hb2.trans (below_of_grown (B := w.heap.size) hg2 hb2.size (fun q e => by injection e with e; omega)), g6, h7.rd (Nat.le_trans (Nat.le_of_lt hbW) hg2.size), hr, World.cell?_setCell_same' _ _ _ (by rw [hc]; rfl)⟩, hg2.cell g3 (by intro e; injection e with e; simp at e; omega)⟩
theorem Fz.row {w2 : World} {A3 : Option Addr} {n3 c3 : Nat} {P3 : List Int} (g : Fz w W A1 n1 c1 l A2 P) (hg : W.grownBy w2 none) (hO : OwnI w2 W.heap.size w2.heap.size (.slice A3 n3 c3) P3) : Fz w w2 A1 n1 c1 l A3 P3 := by
  obtain ⟨g1, g2, g3, g4, g5⟩ := g
  obtain ⟨A', c', e, hr⟩ := hO.rd
  injection e with e _ _
  subst e
  have hb := below_of_grown (B := W.heap.size) hg (Nat.le_refl _) (fun q e => by cases e)
  exact ⟨g1.trans (hb.mono g1.size), g2, g3.at_ hb, hr, hg.cell g5 (by intro e; cases e)⟩
end
end Go.Proofs.Ytooohgjmomhjoaa

