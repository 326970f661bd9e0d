/- PressRun of the program and of the reference, each by its contract. No conditions. -/
import Derived.Test.YtooohgjmomhjoaaPress
import Derived.Test.YtooohgjmomhjoaaMath5
import Derived.Deep.RegionHeld3
import Derived.Deep.DeepCutAuto
namespace Go.Proofs.Ytooohgjmomhjoaa
open Go.RowKit
theorem specPD (G : List Nat) (hG : Sw.GVN G) (S : Nat) (p : Int) (ad : Addr) (c : Nat) (w : World) (hr : RdG w w.heap.size ad G) :
    Calls Try.prog 27 #[.agg #[.slice (some ad) G.length c], .int .i64 S, .int .i64 p] w fun e w' => e = .returned (.int .i64 (Sw.vPressDo (Sw.toI G) S p)) ∧ Below w.heap.size w w' := by
  have h := specPressDo (Sw.toI G) (some ad) c S p (by rw [Sw.toI_len]; have := hG.le; omega) w hr.toI
  rw [Sw.toI_len] at h; exact h
set_option maxHeartbeats 1000000 in
theorem implPressRun (l P : List Int) (A A2 : Option Addr) (c c2 : Nat) (s : Int) (hl : l.length ≤ 1099511627776) (hP : P.length ≤ 1099511627776) (w : World) (hr : RdI w w.heap.size A l) (hp : RdI w w.heap.size A2 P) :
    Calls Try.prog 7 #[.agg #[.slice A l.length c], .int .i64 s, .slice A2 P.length c2] w fun e w' => e = .returned (.int .i64 (Sw.vRun l s P)) ∧ Below w.heap.size w w' := by
  have hr1 := hr.at_ (below1 (.cells #[.slice A l.length c] 25))
  rcases Sw.svB_cases l s with hv | ⟨G, S, rfl, hG, rfl, hS⟩
  · have HF := Lib.hid (Sw.vRun_no1 (P := P) hv)
    go_enter Try.func7, Try.ntmps7
    go_wp2_with fail
    refine (implSV_no l A c s hl hv _ hr1).mono ?_
    rintro e w1 ⟨rfl, hb⟩
    obtain ⟨hb, hc, hz⟩ := box_after hb
    go_wp2_with fail
    go_ret
    exact ⟨ret_i HF.out.symm, hb⟩
  · obtain ⟨ad, rfl, hrg⟩ := RdG.of hG hr
    have hn := hG.le
    rw [Sw.toI_len]
    by_cases h40 : (P.length : Int) ≤ 40
    · have HV := Lib.hid (Sw.vRun_yes hG hS (P := P) (by omega))
      have HG := Lib.hid hG
      clear hG
      go_enter Try.func7, Try.ntmps7
      go_wp2_with fail
      refine (implSV G HG.out S hS ad c _ (hrg.at_ (below1 _))).mono ?_
      rintro e w1 ⟨rfl, hb⟩
      obtain ⟨hb, hc, hz⟩ := box_after hb
      go_wp2_with fail
      go_loopw [1, 20] (fun x i wr => ∃ k T : Nat, k ≤ P.length ∧ i = .int .i64 k ∧ x = .int .i64 T ∧ T < 2 ^ G.length ∧ Sw.runK G S P k = some T ∧ Below w.heap.size w wr ∧ wr.cell? ⟨w.heap.size, 0, none⟩ = some (.slice (some ad) G.length c) ∧ w.heap.size < wr.heap.size) (fun _ i _ => (P.length - intOf i).toNat)
      case atStart => exact ⟨0, S, by omega, rfl, rfl, hS, rfl, hb, hc, hz⟩
      case round =>
        obtain ⟨k, T, hk, rfl, rfl, hT, hrun, hb, hc, hz⟩ := hrel
        have HR := Lib.hid hrun
        clear hrun
        by_cases hlt : k < P.length
        · have hd : decide ((k : Int) < (P.length : Int)) = true := by rw [decide_eq_true_eq]; omega
          obtain ⟨ad2, rfl, hbl, hcp⟩ := (hp.below hb) k hlt
          have HN := Lib.hid (Sw.runK_succ G S P k)
          by_cases h0 : 0 ≤ Sw.gat P k
          · obtain ⟨q, hq⟩ := Int.eq_ofNat_of_zero_le h0
            rw [hq] at hcp
            by_cases hq9 : (q : Int) < (G.length : Int)
            · have hq9' : q < G.length := by omega
              have HS : Hid (Sw.runK G S P (k + 1) = some (T ^^^ Sw.row G q)) := by
                have := HN.out; rw [HR.out, Sw.runStep_yes hq hq9'] at this; exact this
              have hx := i64_xor T (Sw.row G q) (lt63 hn hT) (lt63 hn (Sw.row_lt HG.out hq9'))
              have hxl := Sw.xor_lt hT (Sw.row_lt HG.out hq9')
              have hC := fun W => pressChange G HG.out ad c q hq9' W
              obtain ⟨T', hT'⟩ : ∃ x, x = T ^^^ Sw.row G q := ⟨_, rfl⟩
              rw [← hT'] at hx hxl HS
              have HQ := Lib.hid hq
              clear hq hT' h0
              go_wp2_with fail
              refine (hC _ (hrg.at_ hb)).mono ?_
              rintro e w2 ⟨rfl, hb2⟩
              obtain ⟨hb, hc, hz⟩ := box_next hb hc hz hb2
              go_wp2_with fail
              go_roundw
              case rel => exact ⟨k + 1, T', by omega, by go_num, rfl, hxl, HS.out, hb, hc, hz⟩
              case measure => simp [intOf]; omega
            · have HF : Hid (Sw.vRun (Sw.toI G) S P = -1) := by
                refine Lib.hid ?_
                rw [HV.out]; exact Sw.runK_out HR.out hlt (by omega)
              have HQ := Lib.hid hq
              clear hq h0
              go_wp2_with fail
              go_ret
              exact ⟨ret_i HF.out.symm, hb⟩
          · have HF : Hid (Sw.vRun (Sw.toI G) S P = -1) := by
              refine Lib.hid ?_
              rw [HV.out]; exact Sw.runK_out HR.out hlt (by omega)
            go_wp2_with fail
            go_ret
            exact ⟨ret_i HF.out.symm, hb⟩
        · have : k = P.length := by omega
          subst this
          have HF : Hid (Sw.vRun (Sw.toI G) S P = T) := by
            refine Lib.hid ?_
            rw [HV.out, Sw.run_def, HR.out]; rfl
          go_wp2_with fail
          go_ret
          exact ⟨ret_i HF.out.symm, hb⟩
    · have HF := Lib.hid (Sw.vRun_no2 (l := Sw.toI G) (s := (S : Int)) (P := P) (by omega))
      go_enter Try.func7, Try.ntmps7
      go_wp2_with fail
      refine (implSV G hG S hS ad c _ (hrg.at_ (below1 _))).mono ?_
      rintro e w1 ⟨rfl, hb⟩
      obtain ⟨hb, hc, hz⟩ := box_after hb
      go_wp2_with fail
      go_ret
      exact ⟨ret_i HF.out.symm, hb⟩
set_option maxHeartbeats 1000000 in
theorem specPressRun (l P : List Int) (A A2 : Option Addr) (c c2 : Nat) (s : Int) (hl : l.length ≤ 1099511627776) (hP : P.length ≤ 1099511627776) (w : World) (hr : RdI w w.heap.size A l) (hp : RdI w w.heap.size A2 P) :
    Calls Try.prog 8 #[.agg #[.slice A l.length c], .int .i64 s, .slice A2 P.length c2] w fun e w' => e = .returned (.int .i64 (Sw.vRun l s P)) ∧ Below w.heap.size w w' := by
  have hr1 := hr.at_ (below1 (.cells #[.slice A l.length c] 25))
  rcases Sw.svB_cases l s with hv | ⟨G, S, rfl, hG, rfl, hS⟩
  · have HF := Lib.hid (Sw.vRun_no1 (P := P) hv)
    go_enter Try.func8, Try.ntmps8
    go_wp2_with fail
    refine (specSV_no l A c s hl hv _ hr1).mono ?_
    rintro e w1 ⟨rfl, hb⟩
    obtain ⟨hb, hc, hz⟩ := box_after hb
    go_wp2_with fail
    go_ret
    exact ⟨ret_i HF.out.symm, hb⟩
  · obtain ⟨ad, rfl, hrg⟩ := RdG.of hG hr
    have hn := hG.le
    rw [Sw.toI_len]
    by_cases h40 : (P.length : Int) ≤ 40
    · have HV := Lib.hid (Sw.vRun_yes hG hS (P := P) (by omega))
      have HG := Lib.hid hG
      clear hG
      go_enter Try.func8, Try.ntmps8
      go_wp2_with fail
      refine (specSV G HG.out S hS ad c _ (hrg.at_ (below1 _))).mono ?_
      rintro e w1 ⟨rfl, hb⟩
      obtain ⟨hb, hc, hz⟩ := box_after hb
      go_wp2_with fail
      go_loopw [1, 7] (fun x i wr => ∃ k T : Nat, k ≤ P.length ∧ i = .int .i64 k ∧ x = .int .i64 T ∧ T < 2 ^ G.length ∧ Sw.runK G S P k = some T ∧ Below w.heap.size w wr ∧ wr.cell? ⟨w.heap.size, 0, none⟩ = some (.slice (some ad) G.length c) ∧ w.heap.size < wr.heap.size) (fun _ i _ => (P.length - intOf i).toNat)
      case atStart => exact ⟨0, S, by omega, rfl, rfl, hS, rfl, hb, hc, hz⟩
      case round =>
        obtain ⟨k, T, hk, rfl, rfl, hT, hrun, hb, hc, hz⟩ := hrel
        have HR := Lib.hid hrun
        clear hrun
        by_cases hlt : k < P.length
        · have hd : decide ((k : Int) < (P.length : Int)) = true := by rw [decide_eq_true_eq]; omega
          obtain ⟨ad2, rfl, hbl, hcw⟩ := hp k hlt
          have hcp := (hb.cell (p := ad2.add k) (by rw [add_block]; exact hbl)).trans hcw
          have HCW := Lib.hid hcw
          have HBL := Lib.hid hbl
          clear hcw hbl
          have HN := Lib.hid (Sw.runK_succ G S P k)
          have hC := fun W => specPD G HG.out T (Sw.gat P k) ad c W
          have hrgb := hrg.at_ hb
          by_cases hq : 0 ≤ Sw.gat P k ∧ Sw.gat P k < (G.length : Int)
          · obtain ⟨q, hq1⟩ := Int.eq_ofNat_of_zero_le hq.1
            have hq9' : q < G.length := by omega
            have HS : Hid (Sw.runK G S P (k + 1) = some (T ^^^ Sw.row G q)) := by
              have := HN.out; rw [HR.out, Sw.runStep_yes hq1 hq9'] at this; exact this
            have hxl := Sw.xor_lt hT (Sw.row_lt HG.out hq9')
            have hv := Sw.vPressDo_yes HG.out hT hq9'
            rw [← hq1] at hv
            obtain ⟨T', hT'⟩ : ∃ x, x = T ^^^ Sw.row G q := ⟨_, rfl⟩
            rw [← hT'] at hxl HS hv
            rw [hv] at hC
            clear hq hT' hq1 hv
            go_wp2_with fail
            go_region_held3 (fun w' => w'.cell? ⟨w.heap.size, 0, none⟩ = some (.slice (some ad) G.length c) ∧ w'.cell? (ad2.add k) = some (.int .i64 (Sw.gat P k))) (first | exact ⟨hc, hcp⟩ | exact ⟨hS2, hS4⟩) (first | (go_at_call 27; refine (hC _ (by exact hrgb)).mono ?_; rintro e w2 ⟨rfl, hb2⟩; obtain ⟨hb3, hS2, hz3⟩ := box_next (w2 := w2) hb hc hz (undrew (by exact hb2)); have hS4 := (hb3.cell (p := ad2.add k) (by rw [add_block]; exact HBL.out)).trans HCW.out))
            go_wp2_with fail
            go_roundw
            case rel => exact ⟨k + 1, T', by omega, by go_num, rfl, hxl, HS.out, hb3, hS2, hz3⟩
            case measure => simp [intOf]; omega
          · have hv := Sw.vPressDo_no2 (l := Sw.toI G) (s := (T : Int)) (p := Sw.gat P k) (Sw.ptB_out (by rw [Sw.toI_len]; omega))
            have HF : Hid (Sw.vRun (Sw.toI G) S P = -1) := by
              refine Lib.hid ?_
              rw [HV.out]; exact Sw.runK_out HR.out hlt (by omega)
            rw [hv] at hC
            clear hq hv
            go_wp2_with fail
            go_region_held3 (fun w' => w'.cell? ⟨w.heap.size, 0, none⟩ = some (.slice (some ad) G.length c) ∧ w'.cell? (ad2.add k) = some (.int .i64 (Sw.gat P k))) (first | exact ⟨hc, hcp⟩ | exact ⟨hS2, hS4⟩) (first | (go_at_call 27; refine (hC _ (by exact hrgb)).mono ?_; rintro e w2 ⟨rfl, hb2⟩; obtain ⟨hb3, hS2, hz3⟩ := box_next (w2 := w2) hb hc hz (undrew (by exact hb2)); have hS4 := (hb3.cell (p := ad2.add k) (by rw [add_block]; exact HBL.out)).trans HCW.out))
            go_wp2_with fail
            go_ret
            exact ⟨ret_i HF.out.symm, hb3⟩
        · have : k = P.length := by omega
          subst this
          have HF : Hid (Sw.vRun (Sw.toI G) S P = T) := by
            refine Lib.hid ?_
            rw [HV.out, Sw.run_def, HR.out]; rfl
          go_wp2_with fail
          go_ret
          exact ⟨ret_i HF.out.symm, hb⟩
    · have HF := Lib.hid (Sw.vRun_no2 (l := Sw.toI G) (s := (S : Int)) (P := P) (by omega))
      go_enter Try.func8, Try.ntmps8
      go_wp2_with fail
      refine (specSV G hG S hS ad c _ (hrg.at_ (below1 _))).mono ?_
      rintro e w1 ⟨rfl, hb⟩
      obtain ⟨hb, hc, hz⟩ := box_after hb
      go_wp2_with fail
      go_ret
      exact ⟨ret_i HF.out.symm, hb⟩
end Go.Proofs.Ytooohgjmomhjoaa

