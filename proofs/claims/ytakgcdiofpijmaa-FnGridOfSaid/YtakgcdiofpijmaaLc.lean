/- The draws of sides and of points; contracts at valid graphs that the laws on rings and grids use. Conditions: at most 2^40 bytes. -/
import Derived.Test.YtakgcdiofpijmaaLw
import Derived.Test.YtakgcdiofpijmaaAm
import Derived.Test.YtakgcdiofpijmaaTci
import Derived.Test.YtakgcdiofpijmaaMath10
namespace Go.Proofs.Ytakgcdiofpijmaa
open Go.RowKit
def DrawI (w : World) (hi : Int) (e : Ending) (w' : World) : Prop := ∃ v : Int, e = .returned (.int .i64 v) ∧ 0 ≤ v ∧ v ≤ hi ∧ Below w.heap.size w w'
theorem drawRingOf (A : Option Addr) (n c : Nat) (hn : n ≤ 1099511627776) (hc : n ≤ c) (w : World) (hB : RdB w w.heap.size A n) :
    Calls Try.prog 18 #[.slice A n c] w (DrawI w 11) := by
  go_enter Try.func18, Try.ntmps18
  go_wp2_with fail
  refine (l20Open A n c hn hc _ hB).mono ?_
  rintro e W1 ⟨A', m, rfl, hR, hb⟩
  go_wp2_with fail
  refine (pick w.heap.size m c 0 A' 12 (by omega) (by decide) _ hR).mono ?_
  rintro e W2 ⟨v, rfl, v0, v1, _, hg⟩
  have v1 := v1 (by decide)
  have HB := Lib.hid (hb.trans (below_of_grown (B := w.heap.size) hg hb.size (fun g e => by injection e with e; omega)))
  clear hR hb hg
  go_wp2_with fail
  go_ret
  exact ⟨v, rfl, v0, by omega, HB.out⟩
def DrawII (w : World) (e : Ending) (w' : World) : Prop := ∃ p q : Int, e = .returned (.tuple #[.int .i64 p, .int .i64 q]) ∧ 0 ≤ p ∧ p ≤ 100 ∧ 0 ≤ q ∧ q ≤ 100 ∧ Below w.heap.size w w'
theorem drawGridOf (A : Option Addr) (n c : Nat) (hn : n ≤ 1099511627776) (hc : n ≤ c) (w : World) (hB : RdB w w.heap.size A n) :
    Calls Try.prog 9 #[.slice A n c] w (DrawII w) := by
  go_enter Try.func9, Try.ntmps9
  go_wp2_with fail
  refine (l20Open A n c hn hc _ hB).mono ?_
  rintro e W1 ⟨A', m, rfl, hR, hb⟩
  go_wp2_with fail
  refine (pick w.heap.size m c 0 A' 5 (by omega) (by decide) _ hR).mono ?_
  rintro e W2 ⟨v1, rfl, v1_0, v1_1, hR2, hg⟩
  have v1_1 := v1_1 (by decide)
  have hb2 := hb.trans (below_of_grown (B := w.heap.size) hg hb.size (fun g e => by injection e with e; omega))
  clear hR hb hg
  go_wp2_with fail
  refine (pick w.heap.size m c 1 A' 9 (by omega) (by decide) _ hR2).mono ?_
  rintro e W3 ⟨v2, rfl, v2_0, v2_1, hR3, hg⟩
  have v2_1 := v2_1 (by decide)
  have hb3 := hb2.trans (below_of_grown (B := w.heap.size) hg hb2.size (fun g e => by injection e with e; omega))
  clear hR2 hb2 hg
  go_wp2_with fail
  refine (pick w.heap.size m c 2 A' 5 (by omega) (by decide) _ hR3).mono ?_
  rintro e W4 ⟨v3, rfl, v3_0, v3_1, _, hg⟩
  have v3_1 := v3_1 (by decide)
  have HB := Lib.hid (hb3.trans (below_of_grown (B := w.heap.size) hg hb3.size (fun g e => by injection e with e; omega)))
  clear hR3 hb3 hg
  go_wp2_with fail
  go_ret2
  exact ⟨_, _, rfl, by omega, by omega, v3_0, by omega, HB.out⟩
section
variable (G : List Nat) (hG : Sw.GVN G) (ad : Addr) (c : Nat) (w : World) (hr : RdG w w.heap.size ad G)
include hG hr
theorem implTcNone (h : (Sw.tc G).isSome = false) : Calls Try.prog 14 #[.agg #[.slice (some ad) G.length c]] w fun e w' => (∃ x : Int, e = .returned (.tuple #[.int .i64 x, .bool false])) ∧ Below w.heap.size w w' := by
  have h' : Sw.tc G = none := by cases e : Sw.tc G with
    | none => rfl
    | some C => rw [e] at h; cases h
  have q := implTwoColours (Sw.toI G) (some ad) c (by rw [Sw.toI_len]; have := hG.le; omega) w hr.toI
  rw [Sw.toI_len, (Sw.vTc_none hG h').1, (Sw.vTc_none hG h').2] at q
  exact q.mono fun _ _ ⟨h1, h2⟩ => ⟨⟨_, h1⟩, h2⟩
theorem implTcSome (h : (Sw.tc G).isSome = true) : Calls Try.prog 14 #[.agg #[.slice (some ad) G.length c]] w fun e w' => (∃ x : Int, e = .returned (.tuple #[.int .i64 x, .bool true])) ∧ Below w.heap.size w w' := by
  obtain ⟨C, h'⟩ : ∃ C, Sw.tc G = some C := by cases e : Sw.tc G with
    | none => rw [e] at h; cases h
    | some C => exact ⟨C, rfl⟩
  have q := implTwoColours (Sw.toI G) (some ad) c (by rw [Sw.toI_len]; have := hG.le; omega) w hr.toI
  rw [Sw.toI_len, (Sw.vTc_some hG h').1, (Sw.vTc_some hG h').2] at q
  exact q.mono fun _ _ ⟨h1, h2⟩ => ⟨⟨_, h1⟩, h2⟩
end
end Go.Proofs.Ytakgcdiofpijmaa

