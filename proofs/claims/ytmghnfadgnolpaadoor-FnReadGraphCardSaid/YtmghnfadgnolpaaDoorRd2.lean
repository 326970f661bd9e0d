/- The reader of codes: opened, and 'odd'. Conditions: at most 2^40 bytes, at most 100000 numbers picked before. -/
import Derived.Test.YtmghnfadgnolpaaDoorRd
namespace Go.Proofs.YtmghnfadgnolpaaDoor
open Go.RowKit
def OpenPost (w : World) (c : Nat) (e : Ending) (w' : World) : Prop :=
  ∃ (A : Option Addr) (m : Nat), e = .returned (.pointer (some ⟨w.heap.size, 0, none⟩)) ∧ Rdr w' w.heap.size A m c 0 ∧ Below w.heap.size w w'
theorem Rdr.new {w : World} {A : Option Addr} {m c : Nat} (h : RdB w w.heap.size A m) (hm : m ≤ 2000) (t : TypeId) : Rdr (w.alloc (.cells #[.slice A m c, .int .i64 0] t)) w.heap.size A m c 0 :=
  ⟨by simp [go_sem], by simp [go_sem], by simp [go_sem], h.below (below1 _), hm, by simp⟩
theorem l20Open (A : Option Addr) (n c : Nat) (hn : n ≤ 1099511627776) (hc : n ≤ c) (w : World) (hB : RdB w w.heap.size A n) :
    Calls Tryd.prog 15 #[.slice A n c] w (OpenPost w c) := by
  by_cases h2 : n ≤ 2000
  · go_enter Tryd.func15, Tryd.ntmps15
    go_wp2_with fail
    go_ret
    exact ⟨A, n, rfl, Rdr.new hB h2 _, below1 _⟩
  · obtain ⟨ad, x, rfl, _⟩ := hB 0 (by omega)
    have hc1 : (2000 : Int) ≤ (c : Int) := by omega
    have hlt : ¬ (n : Int) ≤ 2000 := by omega
    have HR := Lib.hid (Rdr.new (A := some ad) (m := 2000) (c := c) (hB.less (by omega)) (by omega) 62)
    go_enter Tryd.func15, Tryd.ntmps15
    go_wp2_with fail
    go_ret
    exact ⟨some ad, 2000, rfl, HR.out, below1 _⟩
def OddPost (w : World) (h : Nat) (A : Option Addr) (m c p : Nat) (e : Ending) (w' : World) : Prop :=
  ∃ (b : Bool) (p' : Nat), e = .returned (.bool b) ∧ p' ≤ p + 1 ∧ Rdr w' h A m c p' ∧ w.grownBy w' (some h)
theorem odd (h m c p : Nat) (A : Option Addr) (n : Nat) (hp : p ≤ 100000) (hn : n ≤ 1099511627776) (w : World) (hR : Rdr w h A m c p) :
    Calls Tryd.prog 34 #[.pointer (some ⟨h, 0, none⟩), .int .i64 n] w (OddPost w h A m c p) := by
  have HR := Lib.hid hR
  clear hR
  by_cases hn0 : n = 0
  · subst hn0
    go_enter Tryd.func34, Tryd.ntmps34
    go_wp2_with fail
    go_ret
    exact ⟨false, p, rfl, by omega, HR.out, World.grownBy.refl _ _⟩
  · have hn1 : (0 : Int) < (n : Int) := by omega
    go_enter Tryd.func34, Tryd.ntmps34
    go_wp2_with fail
    refine (pick h m c p A n hp (by omega) w HR.out).mono ?_
    rintro e w' ⟨v, rfl, h0, h1, hR', hg⟩
    have HR' := Lib.hid hR'
    have HG := Lib.hid hg
    clear hR' hg h1
    go_wp2_with fail
    go_ret
    exact ⟨_, p + 1, rfl, Nat.le_refl _, HR'.out, HG.out⟩
end Go.Proofs.YtmghnfadgnolpaaDoor

