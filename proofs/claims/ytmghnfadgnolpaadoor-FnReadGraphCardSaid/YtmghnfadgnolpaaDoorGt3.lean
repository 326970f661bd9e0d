/- GraphText of the program and of the reference at whatever graph. No conditions. -/
import Derived.Test.YtmghnfadgnolpaaDoorGt2
namespace Go.Proofs.YtmghnfadgnolpaaDoor
open Go.RowKit
noncomputable def Sw.vText (l : List Int) : List UInt8 := if Sw.gvB l = true then Sw.gText (Sw.toN l) else []
theorem Sw.vText_no {l : List Int} (h : Sw.gvB l = false) : Sw.vText l = [] := by unfold Sw.vText; rw [h]; rfl
theorem Sw.vText_yes {G : List Nat} (hG : Sw.GVN G) : Sw.vText (Sw.toI G) = Sw.gText G := by unfold Sw.vText; rw [if_pos (Sw.gvB_yes hG), Sw.toN_toI]
theorem implGraphText (l : List Int) (A : Option Addr) (c : Nat) (hl : l.length ≤ 1099511627776) (w : World) (hr : RdI w w.heap.size A l) :
    Calls Tryd.prog 6 #[.agg #[.slice A l.length c]] w fun e w' => e = .returned (.string ⟨(Sw.vText l).toArray⟩) ∧ Below w.heap.size w w' := by
  have hr1 := hr.at_ (below1 (.cells #[.slice A l.length c] 25))
  rcases Sw.gvB_cases l with hv | ⟨G, rfl, hG⟩
  · rw [Sw.vText_no hv]
    go_enter Tryd.func6, Tryd.ntmps6
    go_wp2_with fail
    refine (implGraphValid_no l A c hl hv _ hr1).mono ?_
    rintro e w1 ⟨rfl, hb⟩
    have HB := Lib.hid (box_after hb).1
    have hc := (box_after hb).2.1
    clear hb
    go_wp2_with fail
    go_ret
    exact ⟨rfl, HB.out⟩
  · rw [Sw.vText_yes hG]
    obtain ⟨ad, rfl, hrg⟩ := RdG.of hG hr
    rw [Sw.toI_len]
    exact implGraphText_yes G hG ad c w hrg
theorem specGraphText (l : List Int) (A : Option Addr) (c : Nat) (hl : l.length ≤ 1099511627776) (w : World) (hr : RdI w w.heap.size A l) :
    Calls Tryd.prog 7 #[.agg #[.slice A l.length c]] w fun e w' => e = .returned (.string ⟨(Sw.vText l).toArray⟩) ∧ Below w.heap.size w w' := by
  have hr1 := hr.at_ (below1 (.cells #[.slice A l.length c] 25))
  rcases Sw.gvB_cases l with hv | ⟨G, rfl, hG⟩
  · rw [Sw.vText_no hv]
    go_enter Tryd.func7, Tryd.ntmps7
    go_wp2_with fail
    refine (specGraphValid_no l A c hl hv _ hr1).mono ?_
    rintro e w1 ⟨rfl, hb⟩
    have HB := Lib.hid (box_after hb).1
    have hc := (box_after hb).2.1
    clear hb
    go_wp2_with fail
    go_ret
    exact ⟨rfl, HB.out⟩
  · rw [Sw.vText_yes hG]
    obtain ⟨ad, rfl, hrg⟩ := RdG.of hG hr
    rw [Sw.toI_len]
    exact specGraphText_yes G hG ad c w hrg
end Go.Proofs.YtmghnfadgnolpaaDoor

