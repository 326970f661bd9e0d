/- What the laws of this seat hold on to: the drawn graph in its box; and the contracts at valid graphs. No conditions. -/
import Derived.Test.YtmghnfadgnolpaaDoorDrG
import Derived.Test.YtmghnfadgnolpaaDoorHelp2
import Derived.Test.YtmghnfadgnolpaaDoorWhole
namespace Go.Proofs.YtmghnfadgnolpaaDoor
open Go.RowKit
/-- the drawn graph l in its box at b -/
def Lw (w W : World) (b : Nat) (A1 : Option Addr) (c1 : Nat) (l : List Int) : Prop :=
  Below w.heap.size w W ∧ W.cell? ⟨b, 0, none⟩ = some (.slice A1 l.length c1) ∧ b < W.heap.size ∧ RdI W W.heap.size A1 l
theorem Lw.start {w w1 : World} {A1 : Option Addr} {c1 : Nat} {l : List Int} (hr : RdI w1 w1.heap.size A1 l) (hb : Below w.heap.size w w1) (t : TypeId) : Lw w (w1.alloc (.cells #[.slice A1 l.length c1] t)) w1.heap.size A1 c1 l :=
  ⟨hb.trans ((below1 _).mono hb.size), cell_new _ _ _, by simp, hr.at_ (below1 _)⟩
theorem Lw.next {w W W' : World} {b c1 : Nat} {A1 : Option Addr} {l : List Int} (h : Lw w W b A1 c1 l) (hb : Below W.heap.size W W') : Lw w W' b A1 c1 l :=
  ⟨h.1.trans (hb.mono h.1.size), (hb.cell (p := ⟨b, 0, none⟩) h.2.2.1).trans h.2.1, Nat.lt_of_lt_of_le h.2.2.1 hb.size, h.2.2.2.at_ hb⟩
/-- the drawn graph is the valid graph G -/
def Lg (w W : World) (b : Nat) (ad : Addr) (c1 : Nat) (G : List Nat) : Prop :=
  Below w.heap.size w W ∧ W.cell? ⟨b, 0, none⟩ = some (.slice (some ad) G.length c1) ∧ b < W.heap.size ∧ RdG W W.heap.size ad G
theorem Lw.valid {w W : World} {b c1 : Nat} {A1 : Option Addr} {G : List Nat} (h : Lw w W b A1 c1 (Sw.toI G)) (hG : Sw.GVN G) : ∃ ad, A1 = some ad ∧ Lg w W b ad c1 G := by
  obtain ⟨h1, h2, h3, h4⟩ := h
  obtain ⟨ad, e, hr⟩ := RdG.of hG h4
  refine ⟨ad, e, h1, ?_, h3, hr⟩
  rw [Sw.toI_len, e] at h2; exact h2
theorem Lg.next {w W W' : World} {b c1 : Nat} {ad : Addr} {G : List Nat} (h : Lg w W b ad c1 G) (hb : Below W.heap.size W W') : Lg w W' b ad c1 G :=
  ⟨h.1.trans (hb.mono h.1.size), (hb.cell (p := ⟨b, 0, none⟩) h.2.2.1).trans h.2.1, Nat.lt_of_lt_of_le h.2.2.1 hb.size, h.2.2.2.at_ hb⟩
theorem Lg.drewN {w W : World} {b c1 : Nat} {ad : Addr} {G : List Nat} (h : Lg w W b ad c1 G) (n : Nat) : Lg w (W.drewN n) b ad c1 G := h.next (bdr (Below.refl _ _) n)
section
variable (G : List Nat) (hG : Sw.GVN G) (ad : Addr) (c : Nat) (w : World) (hr : RdG w w.heap.size ad G)
include hG hr
theorem implLinesG : Calls Tryd.prog 23 #[.agg #[.slice (some ad) G.length c]] w fun e w' => e = .returned (.int .i64 ((Sw.degs G G.length / 2 : Nat) : Int)) ∧ Below w.heap.size w w' := by
  have h := implLinesMany (Sw.toI G) (some ad) c (by rw [Sw.toI_len]; have := hG.le; omega) w hr.toI
  rw [Sw.toI_len, Sw.vLines_yes hG] at h; exact h
end
end Go.Proofs.YtmghnfadgnolpaaDoor

