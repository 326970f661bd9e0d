/- PartOf, Whole and Alone of the program and of the reference, each by its contract. No conditions. -/
import Derived.Test.YtkphnhhjdeljeaaBes
import Derived.WalkMore
import Derived.ScopeJumps
import Derived.Deep.RegionHeld3
import Derived.Deep.DeepCutAuto
namespace Go.Proofs.Ytkphnhhjdeljeaa
open Go.RowKit
/-- what holds at each jump back of partFrom -/
def PFJ (G : List Nat) (ad : Addr) (c p : Nat) (w : World) (a' : Act) (w' : World) : Prop :=
  ∃ (s : Nat) (u6 u7 u8 u9 u10 u11 u12 u13 u14 u15 u16 u17 : Value), a' = { tmps := #[.agg #[.slice (some ad) G.length c], .int .i64 p, .pointer (some ⟨w.heap.size, 0, none⟩), undef, .int .i64 0, .int .i64 s, u6, u7, u8, u9, u10, u11, u12, u13, u14, u15, u16, u17, undef], defers := [] } ∧
    s < 2 ^ G.length ∧ Sw.part G s = Sw.pt G p ∧ Below w.heap.size w w' ∧ w'.cell? ⟨w.heap.size, 0, none⟩ = some (.slice (some ad) G.length c) ∧ w.heap.size < w'.heap.size
theorem implAlone (l : List Int) (A : Option Addr) (c : Nat) (s : Int) (hl : l.length ≤ 1099511627776) (w : World) (hr : RdI w w.heap.size A l) :
    Calls Try.prog 19 #[.agg #[.slice A l.length c], .int .i64 s] w fun e w' => e = .returned (.bool (Sw.vAlone l s)) ∧ Below w.heap.size w w' := by
  have hr1 := hr.at_ (below1 (.cells #[.slice A l.length c] 27))
  rcases Sw.svB_cases l s with hv | ⟨G, S, rfl, hG, rfl, hS⟩
  · have HF := Lib.hid (Sw.vAlone_no hv)
    go_enter Try.func19, Try.ntmps19
    go_wp2_with fail
    refine (implSetValid l A c s hl _ hr1).mono ?_
    rintro e w1 ⟨rfl, hb⟩
    obtain ⟨hb, hc, hz⟩ := box_after hb
    go_wp2_with fail
    go_ret
    exact ⟨ret_b HF.out.symm, hb⟩
  · have hv := Sw.svB_yes hG hS
    have HF := Lib.hid (Sw.vAlone_yes hG hS)
    obtain ⟨ad, rfl, hrg⟩ := RdG.of hG hr
    have hS40 := lt40 hG.le hS
    have hand := i64_and (Sw.bes G S) S (lt63 hG.le (Sw.bes_lt hG S)) (lt63 hG.le hS)
    go_enter Try.func19, Try.ntmps19
    go_wp2_with fail
    refine (implSetValid (Sw.toI G) (some ad) c S hl _ hr1).mono ?_
    rintro e w1 ⟨rfl, hb⟩
    obtain ⟨hb, hc, hz⟩ := box_after hb
    rw [Sw.toI_len] at hc
    go_wp2_with fail
    refine (besideUnion G hG ad c S hS40 _ (hrg.at_ hb)).mono ?_
    rintro e w2 ⟨rfl, hb2⟩
    obtain ⟨hb, hc, hz⟩ := box_next hb hc hz hb2
    go_wp2_with fail
    go_ret
    exact ⟨ret_b (by rw [HF.out]; exact beq_nat_zero _), hb⟩
theorem specAlone (l : List Int) (A : Option Addr) (c : Nat) (s : Int) (hl : l.length ≤ 1099511627776) (w : World) (hr : RdI w w.heap.size A l) :
    Calls Try.prog 18 #[.agg #[.slice A l.length c], .int .i64 s] w fun e w' => e = .returned (.bool (Sw.vAlone l s)) ∧ Below w.heap.size w w' := by
  have hr1 := hr.at_ (below1 (.cells #[.slice A l.length c] 27))
  rcases Sw.svB_cases l s with hv | ⟨G, S, rfl, hG, rfl, hS⟩
  · have HF := Lib.hid (Sw.vAlone_no hv)
    go_enter Try.func18, Try.ntmps18
    go_wp2_with fail
    refine (specSetValid l A c s hl _ hr1).mono ?_
    rintro e w1 ⟨rfl, hb⟩
    obtain ⟨hb, hc, hz⟩ := box_after hb
    go_wp2_with fail
    go_ret
    exact ⟨ret_b HF.out.symm, hb⟩
  · have hv := Sw.svB_yes hG hS
    have HF := Lib.hid (Sw.vAlone_yes hG hS)
    have HB := Lib.hid (Sw.vBes_yes hG hS)
    have hS40 := lt40 hG.le hS
    go_enter Try.func18, Try.ntmps18
    go_wp2_with fail
    refine (specSetValid (Sw.toI G) A c S hl _ hr1).mono ?_
    rintro e w1 ⟨rfl, hb⟩
    obtain ⟨hb, hc, hz⟩ := box_after hb
    go_wp2_with fail
    refine (specBesideSet (Sw.toI G) A c S hl _ (hr.at_ hb)).mono ?_
    rw [HB.out]
    rintro e w2 ⟨rfl, hb2⟩
    obtain ⟨hb, hc, hz⟩ := box_next hb hc hz hb2
    go_wp2_with fail
    refine (l1Both S (Sw.bes G S) hS40 (lt40 hG.le (Sw.bes_lt hG S)) _).mono ?_
    rintro e w3 ⟨rfl, rfl⟩
    go_wp2_with fail
    go_ret
    exact ⟨ret_b (by rw [HF.out, Nat.and_comm]; exact beq_nat_zero _), hb⟩
end Go.Proofs.Ytkphnhhjdeljeaa

