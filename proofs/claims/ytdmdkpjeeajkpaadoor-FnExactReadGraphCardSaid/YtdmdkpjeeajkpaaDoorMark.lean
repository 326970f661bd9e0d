/- The exact laws' marks on graphs, and what reads them, each by its contract. Conditions: lists of at most 2^20 ints. -/
import Derived.Test.YtdmdkpjeeajkpaaDoorHelp
namespace Go.Proofs.YtdmdkpjeeajkpaaDoor
open Go.RowKit
def marks (n : Nat) (x : Int) : List Int := Sw.tab n fun k => x + k
theorem marks_len (n : Nat) (x : Int) : (marks n x).length = n := Sw.tab_len _ _
theorem gat_marks {n k : Nat} (x : Int) (h : k < n) : Sw.gat (marks n x) k = x + k := Sw.gat_tab _ h
theorem heldIntS (n : Nat) (A : Option Addr) (c : Nat) (x : Int) (hn : n ≤ 1048576) (hx0 : 0 ≤ x) (hx : x ≤ 1048576) (w : World) (hr : RdI w w.heap.size A (marks n x)) :
    Calls Tryd.prog 21 #[.slice A n c, .int .i64 x] w fun e w' => e = .returned (.int .i64 (x + n)) ∧ w = w' := by
  go_enter Tryd.func21, Tryd.ntmps21
  go_wp2_with fail
  go_loop [1, 5] (fun y i => ∃ k : Nat, k ≤ n ∧ i = .int .i64 k ∧ y = .int .i64 (x + k)) (fun _ i => (n - intOf i).toNat)
  case atStart => exact ⟨0, by omega, rfl, by simp⟩
  case round =>
    obtain ⟨k, hk, rfl, rfl⟩ := hrel
    by_cases hlt : k < n
    · obtain ⟨ad, rfl, hb, hc⟩ := hr k (by rw [marks_len]; exact hlt)
      rw [gat_marks x hlt] at hc
      go_wp2_with fail
      go_round
      case rel => exact ⟨k + 1, by omega, by go_num, val_i (by omega)⟩
      case measure => simp [intOf]; omega
    · have : k = n := by omega
      subst this
      go_wp2_with fail
      go_ret
      exact ⟨rfl, rfl⟩
theorem heldGraph (n : Nat) (A : Option Addr) (c : Nat) (x : Int) (hn : n ≤ 1048576) (hx0 : 0 ≤ x) (hx : x ≤ 1048576) (w : World) (hr : RdI w w.heap.size A (marks n x)) :
    Calls Tryd.prog 9 #[.agg #[.slice A n c], .int .i64 x] w fun e w' => e = .returned (.int .i64 (x + n)) ∧ Below w.heap.size w w' := by
  go_enter Tryd.func9, Tryd.ntmps9
  go_wp2_with fail
  refine (heldIntS n A c x hn hx0 hx _ (hr.at_ (below1 _))).mono ?_
  rintro e w1 ⟨rfl, rfl⟩
  go_wp2_with fail
  go_ret
  exact ⟨rfl, below1 _⟩
/-- behind a mark: only the marked row, and new blocks, have turned -/
theorem markGraph (l : List Int) (lo hi : Nat) (v : Value) (x : Int) (hl : l.length ≤ 1048576) (hx0 : 0 ≤ x) (hx : x ≤ 1048576) (w : World) (h : OwnI w lo hi v l) :
    Calls Tryd.prog 8 #[.agg #[v], .int .i64 x] w fun e w' => e = .returned (.int .i64 (x + l.length)) ∧ OwnI w' lo hi v (marks l.length x) ∧ w.grownBy w' v.ownBlock := by
  obtain ⟨A, c, hv, _⟩ := h.rd
  have h1 : OwnI (w.alloc (.cells #[v] 24)) lo hi v l := ⟨h.1.alloc _, by have := h.2.1; simp; omega, h.2.2⟩
  have HM := Lib.hid (markIntS l lo hi v x hl hx0 hx _ h1)
  have hg := World.grownBy_alloc w (.cells #[v] 24) v.ownBlock
  have HG := Lib.hid hg
  clear h h1 hg
  subst hv
  go_enter Tryd.func8, Tryd.ntmps8
  go_wp2_with fail
  refine HM.out.mono ?_
  rintro e w1 ⟨rfl, ho, hgr⟩
  have HO := Lib.hid ho
  have HR := Lib.hid hgr
  clear ho hgr
  go_wp2_with fail
  go_ret
  exact ⟨rfl, HO.out, World.grownBy.trans HG.out HR.out⟩
/-- what an exact law on graphs made holds on to: the reference's answer and the program's, each in a box, each in a row of its own -/
def St (w W : World) (b1 b2 lo1 hi1 lo2 hi2 : Nat) (v1 v2 : Value) (L M : List Int) : Prop :=
  Below w.heap.size w W ∧ W.cell? ⟨b1, 0, none⟩ = some v1 ∧ W.cell? ⟨b2, 0, none⟩ = some v2 ∧ b1 < W.heap.size ∧ b2 < W.heap.size ∧ OwnI W lo1 hi1 v1 L ∧ OwnI W lo2 hi2 v2 M
theorem St.next {w W W' : World} {b1 b2 lo1 hi1 lo2 hi2 : Nat} {v1 v2 : Value} {L M : List Int} (h : St w W b1 b2 lo1 hi1 lo2 hi2 v1 v2 L M) (hb : Below W.heap.size W W') : St w W' b1 b2 lo1 hi1 lo2 hi2 v1 v2 L M := by
  obtain ⟨h1, h2, h3, h4, h5, h6, h7⟩ := h
  have hs := hb.size
  exact ⟨h1.trans (hb.mono h1.size), (hb.cell h4).trans h2, (hb.cell h5).trans h3, by omega, by omega, h6.below hb h6.2.1, h7.below hb h7.2.1⟩
theorem St.mark {w W W' : World} {b1 b2 lo1 hi1 lo2 hi2 : Nat} {v1 v2 : Value} {L M M' : List Int} (h : St w W b1 b2 lo1 hi1 lo2 hi2 v1 v2 L M) (hg : W.grownBy W' v2.ownBlock) (hO : OwnI W' lo2 hi2 v2 M')
    (q1 : hi1 ≤ lo2) (q2 : b1 < lo2) (q3 : hi2 ≤ b2) (q4 : w.heap.size ≤ lo2) : St w W' b1 b2 lo1 hi1 lo2 hi2 v1 v2 L M' := by
  obtain ⟨h1, h2, h3, h4, h5, h6, h7⟩ := h
  have hlo : ∀ g, v2.ownBlock = some g → lo2 ≤ g ∧ g < hi2 := fun g hg => ⟨(h7.1.lt g hg).1, h7.2.2 g hg⟩
  have hs := hg.size
  refine ⟨h1.trans (below_of_grown hg h1.size fun g e => by have := hlo g e; omega), hg.cell h2 fun e => ?_, hg.cell h3 fun e => ?_, by omega, by omega, h6.grown hg fun g e => ?_, hO⟩
  · have := hlo b1 e.symm; omega
  · have := hlo b2 e.symm; omega
  · have := hlo g e; omega
theorem St.rd1 {w W : World} {b1 b2 lo1 hi1 lo2 hi2 n c : Nat} {A : Option Addr} {v2 : Value} {L M : List Int} (h : St w W b1 b2 lo1 hi1 lo2 hi2 (.slice A n c) v2 L M) : RdI W W.heap.size A L := by
  obtain ⟨A', c', e, hr⟩ := h.2.2.2.2.2.1.rd
  injection e with e _ _
  subst e; exact hr
theorem St.rd2 {w W : World} {b1 b2 lo1 hi1 lo2 hi2 n c : Nat} {A : Option Addr} {v1 : Value} {L M : List Int} (h : St w W b1 b2 lo1 hi1 lo2 hi2 v1 (.slice A n c) L M) : RdI W W.heap.size A M := by
  obtain ⟨A', c', e, hr⟩ := h.2.2.2.2.2.2.rd
  injection e with e _ _
  subst e; exact hr
/-- both answers are there -/
theorem St.start {w w1 w2 : World} {v1 v2 : Value} {t : TypeId} {L : List Int} (h1 : OwnI w1 w.heap.size w1.heap.size v1 L) (b1 : Below w.heap.size w w1)
    (h2 : OwnI w2 (w1.alloc (.cells #[v1] t)).heap.size w2.heap.size v2 L) (b2 : Below (w1.alloc (.cells #[v1] t)).heap.size (w1.alloc (.cells #[v1] t)) w2) :
    St w (w2.alloc (.cells #[v2] t)) w1.heap.size w2.heap.size w.heap.size w1.heap.size (w1.heap.size + 1) w2.heap.size v1 v2 L L := by
  obtain ⟨q1, q2, q3⟩ := box_after b2
  have hs := b1.size
  have h1' := h1.below q1 (Nat.le_refl _)
  simp only [World.size_alloc] at h2
  refine ⟨(b1.trans (q1.mono hs)).trans ((below1 _).mono (by omega)), ?_, cell_new _ _ _, by simp; omega, by simp, h1'.below (below1 _) (by omega), h2.below (below1 _) (Nat.le_refl _)⟩
  rw [(below1 _).cell q3]; exact q2
end Go.Proofs.YtdmdkpjeeajkpaaDoor

