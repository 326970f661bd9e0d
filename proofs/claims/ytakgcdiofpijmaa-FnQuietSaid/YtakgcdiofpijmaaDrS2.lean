/- The draws of a graph and a set, weak contracts: a list of at most ten ints, and any int. Conditions: at most 2^40 bytes. -/
import Derived.Test.YtakgcdiofpijmaaDrS
namespace Go.Proofs.Ytakgcdiofpijmaa
open Go.RowKit
def DrawGI (w : World) (e : Ending) (w' : World) : Prop :=
  ∃ (A1 : Option Addr) (c1 : Nat) (l : List Int) (s : Int), e = .returned (.tuple #[.agg #[.slice A1 l.length c1], .int .i64 s]) ∧ l.length ≤ 10 ∧ RdI w' w'.heap.size A1 l ∧ Below w.heap.size w w'
theorem drawPressSet (A : Option Addr) (n c : Nat) (hn : n ≤ 1099511627776) (hc : n ≤ c) (w : World) (hB : RdB w w.heap.size A n) :
    Calls Try.prog 32 #[.slice A n c] w (DrawGI w) := by
  have hB1 := hB.at_ (below1 (.cells #[.slice none 0 0] 27))
  go_enter Try.func32, Try.ntmps32
  go_wp2_with fail
  refine (l20Open A n c hn hc _ hB1).mono ?_
  rintro e W1 ⟨A', m, rfl, hR, hb⟩
  obtain ⟨hb1, hc1, hz1⟩ := box_after hb
  have hf1 : W1.frozen? ⟨w.heap.size, 0, none⟩ = false := by rw [hb.frozen (by simp)]; simp [go_sem]
  simp only [World.size_alloc] at hR
  go_wp2_with fail
  refine (l20Set (w.heap.size + 1) m c 0 A' 9 (by omega) (by omega) _ hR).mono ?_
  rintro e W2 ⟨A1, c1, p', l, s, rfl, h10, _, _, hg, hr⟩
  have hc2 : W2.cell? ⟨w.heap.size, 0, none⟩ = some (.slice none 0 0) := hg.cell hc1 (by intro e; injection e with e; simp at e)
  have hf2 := (grown_free (a := ⟨w.heap.size, 0, none⟩) hg hz1 (by intro e; injection e with e; simp at e)).trans hf1
  have hd := draw_end (c1 := c1) hb1 hz1 (by omega) hg rfl h10 hr hc1
  have hd2 : DrawGI w (.returned (.tuple #[.agg #[.slice A1 l.length c1], .int .i64 s])) (W2.setCell ⟨w.heap.size, 0, none⟩ (.slice A1 l.length c1)) := by
    obtain ⟨A2, c2, l2, e, q⟩ := hd.1
    injection e with e
    injection e with e
    injection e with e
    injection e with e _
    injection e with e1 e2 e3
    subst e1 e3
    exact ⟨A1, c1, l2, s, by rw [e2], q⟩
  have HE := Lib.hid hd2
  have HC := Lib.hid hd.2
  clear hR hg hr hb hb1 hc1 hf1 hB hB1 hd hd2
  go_wp2_with fail
  exact bodyPost_ret (v := .tuple #[.agg #[.slice A1 l.length c1], .int .i64 s]) (by have q := HC.out; simp [results, Try.results32, go_sem, q]) rfl HE.out
end Go.Proofs.Ytakgcdiofpijmaa

