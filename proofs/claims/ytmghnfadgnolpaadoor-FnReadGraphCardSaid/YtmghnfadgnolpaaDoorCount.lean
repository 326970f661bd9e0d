/- SetMany, LinesMany, AloneMost, CoverLeast of the program and of the reference, each by its contract. No conditions. -/
import Derived.Test.YtmghnfadgnolpaaDoorPart
namespace Go.Proofs.YtmghnfadgnolpaaDoor
open Go.RowKit
theorem implLinesMany (l : List Int) (A : Option Addr) (c : Nat) (hl : l.length ≤ 1099511627776) (w : World) (hr : RdI w w.heap.size A l) :
    Calls Tryd.prog 23 #[.agg #[.slice A l.length c]] w fun e w' => e = .returned (.int .i64 (Sw.vLines l)) ∧ Below w.heap.size w w' := by
  have hr1 := hr.at_ (below1 (.cells #[.slice A l.length c] 25))
  rcases Sw.gvB_cases l with hv | ⟨G, rfl, hG⟩
  · have HF := Lib.hid (Sw.vLines_no hv)
    go_enter Tryd.func23, Tryd.ntmps23
    go_wp2_with fail
    refine (implGraphValid_no l A c hl hv _ hr1).mono ?_
    rintro e w1 ⟨rfl, hb⟩
    obtain ⟨hb, hc, hz⟩ := box_after hb
    go_wp2_with fail
    go_ret
    exact ⟨ret_i HF.out.symm, hb⟩
  · have HF := Lib.hid (Sw.vLines_yes hG)
    obtain ⟨ad, rfl, hrg⟩ := RdG.of hG hr
    have hn := hG.le
    have hd := Sw.degs_le hG
    rw [Sw.toI_len]
    go_enter Tryd.func23, Tryd.ntmps23
    go_wp2_with fail
    refine (implGV G hG ad c _ (hrg.at_ (below1 _))).mono ?_
    rintro e w1 ⟨rfl, hb⟩
    obtain ⟨hb, hc, hz⟩ := box_after hb
    have HD := Lib.hid hd
    clear hd
    go_wp2_with fail
    go_loop [3, 12] (fun x i => ∃ k : Nat, k ≤ G.length ∧ i = .int .i64 k ∧ x = .int .i64 (Sw.degs G k : Nat)) (fun _ i => (G.length - intOf i).toNat)
    case atStart => exact ⟨0, by omega, rfl, rfl⟩
    case round =>
      obtain ⟨k, hk, rfl, rfl⟩ := hrel
      have hdk := HD.out k
      by_cases hlt : k < G.length
      · have hcell := (hrg.below hb).cell k hlt
        have hck := Sw.cnt_le (hG.lt k) (by omega)
        have HS := Lib.hid (Sw.degs_succ G k)
        go_wp2_with fail
        refine (countBits (Sw.nb G k) (lt40 hn (hG.lt k)) _).mono ?_
        rintro e w2 ⟨rfl, rfl⟩
        go_wp2_with fail
        go_round
        case rel => exact ⟨k + 1, by omega, by go_num, val_i (by rw [HS.out]; omega)⟩
        case measure => simp [intOf]; omega
      · have : k = G.length := by omega
        subst this
        go_wp2_with fail
        go_ret
        exact ⟨ret_i (by rw [HF.out]; omega), hb⟩
end Go.Proofs.YtmghnfadgnolpaaDoor

