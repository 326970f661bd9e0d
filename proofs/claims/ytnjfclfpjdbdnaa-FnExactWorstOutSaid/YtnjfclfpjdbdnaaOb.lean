/- OutBy of the program and of the reference, each by its contract. No conditions. -/
import Derived.Test.YtnjfclfpjdbdnaaPress
namespace Go.Proofs.Ytnjfclfpjdbdnaa
open Go.RowKit
theorem ret_ob {a b : Int} {p q : Bool} (h : a = b) (h2 : p = q) : Ending.returned (.tuple #[.int .i64 a, .bool p]) = .returned (.tuple #[.int .i64 b, .bool q]) := by rw [h, h2]
theorem ob_lt_pow {k n : Nat} (h : (k : Int) < 2 ^ n) : k < 2 ^ n := by rw [pow_nat] at h; omega
theorem ob_eq_pow {k n : Nat} (h : k ≤ 2 ^ n) (h' : ¬ (k : Int) < 2 ^ n) : k = 2 ^ n := by rw [pow_nat] at h'; omega
theorem ob_yes {G : List Nat} {S k : Nat} (h : Sw.prs G k = S) (h1 : Sw.obK G S k = none) : Sw.obK G S (k + 1) = some k := by rw [Sw.obK_succ, if_pos h, h1]
theorem ob_less {G : List Nat} {S k b : Nat} (h : Sw.prs G k = S) (h1 : Sw.obK G S k = some b) (h2 : Sw.cnt k < Sw.cnt b) : Sw.obK G S (k + 1) = some k := by
  rw [Sw.obK_succ, if_pos h, h1]; show (if _ then _ else _) = _; rw [if_pos h2]
theorem ob_same {G : List Nat} {S k b : Nat} (h : Sw.prs G k = S) (h1 : Sw.obK G S k = some b) (h2 : ¬ Sw.cnt k < Sw.cnt b) : Sw.obK G S (k + 1) = some b := by
  rw [Sw.obK_succ, if_pos h, h1]; show (if _ then _ else _) = _; rw [if_neg h2]
theorem ob_no {G : List Nat} {S k : Nat} (h : Sw.prs G k ≠ S) : Sw.obK G S (k + 1) = Sw.obK G S k := by rw [Sw.obK_succ, if_neg h]
set_option maxHeartbeats 2000000 in
theorem specOutBy (l : List Int) (A : Option Addr) (c : Nat) (s : Int) (hl : l.length ≤ 1099511627776) (w : World) (hr : RdI w w.heap.size A l) :
    Calls Try.prog 20 #[.agg #[.slice A l.length c], .int .i64 s] w fun e w' => e = .returned (.tuple #[.int .i64 (Sw.obI (Sw.vOutBy l s)), .bool (Sw.vOutBy l s).isSome]) ∧ Below w.heap.size w w' := by
  have hr1 := hr.at_ (below1 (.cells #[.slice A l.length c] 27))
  rcases Sw.svB_cases l s with hv | ⟨G, S, rfl, hG, rfl, hS⟩
  · have HF := Lib.hid (Sw.vOutBy_no hv)
    by_cases h9 : (l.length : Int) ≤ 9
    · have hp : (2 : Int) ^ l.length ≤ 512 := pow9 (by omega)
      have hp1 := pow1 l.length
      go_enter Try.func20, Try.ntmps20
      go_wp2_with fail
      refine wp_loop_rounds 1 ?_
      rw [rounds_succ]
      go_wp2_with fail
      refine (specSV_no l A c s hl hv _ hr1).mono ?_
      rintro e w1 ⟨rfl, hb⟩
      obtain ⟨hb, hc, hz⟩ := box_after hb
      go_wp2_with fail
      go_ret2
      exact ⟨ret_ob (by rw [HF.out]; rfl) (by rw [HF.out]; rfl), hb⟩
    · have hw : wrap64 512 = 512 := by unfold wrap64; rfl
      go_enter Try.func20, Try.ntmps20
      go_wp2_with fail
      refine wp_loop_rounds 1 ?_
      rw [rounds_succ]
      go_wp2_with fail
      refine (specSV_no l A c s hl hv _ hr1).mono ?_
      rintro e w1 ⟨rfl, hb⟩
      obtain ⟨hb, hc, hz⟩ := box_after hb
      go_wp2_with fail
      go_ret2
      exact ⟨ret_ob (by rw [HF.out]; rfl) (by rw [HF.out]; rfl), hb⟩
  · have HF := Lib.hid (Sw.vOutBy_yes hG hS)
    obtain ⟨ad, rfl, hrg⟩ := RdG.of hG hr
    have hn := hG.le
    have hp := pow9 hG.le
    have hp1 := pow1 G.length
    have hmin : min (G.length : Int) 9 = (G.length : Int) := by omega
    have hc0 := cell_new w (.slice (some ad) G.length c) 27
    rw [Sw.toI_len]
    go_enter Try.func20, Try.ntmps20
    go_wp2_with fail
    go_loopw [6, 7] (fun x i wr => ∃ k : Nat, k ≤ 2 ^ G.length ∧ i = .int .i64 k ∧ x = .int .i64 (Sw.obI (Sw.obK G S k)) ∧ Below w.heap.size w wr ∧ wr.cell? ⟨w.heap.size, 0, none⟩ = some (.slice (some ad) G.length c) ∧ w.heap.size < wr.heap.size) (fun _ i _ => (1024 - intOf i).toNat)
    case atStart => exact ⟨0, Nat.zero_le _, rfl, rfl, below1 _, hc0, by simp⟩
    case round =>
      obtain ⟨k, hk, rfl, rfl, hb, hc, hz⟩ := hrel
      have h512 := Sw.pow_le9 hn
      by_cases hlt : (k : Int) < 2 ^ G.length
      · have HN := Lib.hid (ob_lt_pow hlt)
        have hk40 := lt40 hn HN.out
        have HK : Hid (k + 1 ≤ 2 ^ G.length) := by have := HN.out; show _ ≤ _; omega
        by_cases h0 : Sw.prs G k = S
        · rcases hO : Sw.obK G S k with _ | b
          · have HA := Lib.hid (ob_yes h0 hO)
            rw [show Sw.obI none = -1 from rfl]
            have hC := fun W => l2Press G hG ad c k hk40 W
            rw [h0] at hC
            clear hk h512 hO h0
            go_wp2_with fail
            refine (specSV G hG S hS ad c _ (hrg.at_ hb)).mono ?_
            rintro e w1 ⟨rfl, hb1⟩
            obtain ⟨hb, hc, hz⟩ := box_next hb hc hz hb1
            go_wp2_with fail
            refine (hC _ (hrg.at_ hb)).mono ?_
            rintro e w2 ⟨rfl, hb2⟩
            obtain ⟨hb, hc, hz⟩ := box_next hb hc hz hb2
            go_wp2_with fail
            go_roundw
            case rel => exact ⟨k + 1, HK.out, by go_num, by rw [HA.out]; rfl, hb, hc, hz⟩
            case measure => simp [intOf]; omega
          · have hbk := (Sw.obK_some G S k b hO).1
            have hb40 : b < 1099511627776 := by omega
            have hC := fun W => l2Press G hG ad c k hk40 W
            rw [h0] at hC
            rw [show Sw.obI (some b) = (b : Int) from rfl]
            have hA1 := fun h => ob_less h0 hO h
            have hA2 := fun h => ob_same h0 hO h
            by_cases hcn : Sw.cnt k < Sw.cnt b
            · have HA := Lib.hid (hA1 hcn)
              have hcd : decide (((Sw.cnt k : Nat) : Int) < ((Sw.cnt b : Nat) : Int)) = true := by rw [decide_eq_true_eq]; omega
              clear hk h512 hO h0 hA1 hA2 hbk
              go_wp2_with fail
              refine (specSV G hG S hS ad c _ (hrg.at_ hb)).mono ?_
              rintro e w1 ⟨rfl, hb1⟩
              obtain ⟨hb, hc, hz⟩ := box_next hb hc hz hb1
              go_wp2_with fail
              refine (hC _ (hrg.at_ hb)).mono ?_
              rintro e w2 ⟨rfl, hb2⟩
              obtain ⟨hb, hc, hz⟩ := box_next hb hc hz hb2
              go_wp2_with fail
              refine (l1Many k hk40 _).mono ?_
              rintro e w3 ⟨rfl, rfl⟩
              go_wp2_with fail
              refine (l1Many b hb40 _).mono ?_
              rintro e w3 ⟨rfl, rfl⟩
              go_wp2_with fail
              go_roundw
              case rel => exact ⟨k + 1, HK.out, by go_num, by rw [HA.out]; rfl, hb, hc, hz⟩
              case measure => simp [intOf]; omega
            · have HA := Lib.hid (hA2 hcn)
              have hcd : decide (((Sw.cnt k : Nat) : Int) < ((Sw.cnt b : Nat) : Int)) = false := by rw [decide_eq_false_iff_not]; omega
              clear hk h512 hO h0 hA1 hA2 hbk
              go_wp2_with fail
              refine (specSV G hG S hS ad c _ (hrg.at_ hb)).mono ?_
              rintro e w1 ⟨rfl, hb1⟩
              obtain ⟨hb, hc, hz⟩ := box_next hb hc hz hb1
              go_wp2_with fail
              refine (hC _ (hrg.at_ hb)).mono ?_
              rintro e w2 ⟨rfl, hb2⟩
              obtain ⟨hb, hc, hz⟩ := box_next hb hc hz hb2
              go_wp2_with fail
              refine (l1Many k hk40 _).mono ?_
              rintro e w3 ⟨rfl, rfl⟩
              go_wp2_with fail
              refine (l1Many b hb40 _).mono ?_
              rintro e w3 ⟨rfl, rfl⟩
              go_wp2_with fail
              go_roundw
              case rel => exact ⟨k + 1, HK.out, by go_num, by rw [HA.out]; rfl, hb, hc, hz⟩
              case measure => simp [intOf]; omega
        · have HA := Lib.hid (ob_no h0)
          have hne : (((Sw.prs G k : Nat) : Int) == (S : Int)) = false := by rw [beq_nat]; exact decide_eq_false h0
          clear hk h512 h0
          go_wp2_with fail
          refine (specSV G hG S hS ad c _ (hrg.at_ hb)).mono ?_
          rintro e w1 ⟨rfl, hb1⟩
          obtain ⟨hb, hc, hz⟩ := box_next hb hc hz hb1
          go_wp2_with fail
          refine (l2Press G hG ad c k hk40 _ (hrg.at_ hb)).mono ?_
          rintro e w2 ⟨rfl, hb2⟩
          obtain ⟨hb, hc, hz⟩ := box_next hb hc hz hb2
          go_wp2_with fail
          go_roundw
          case rel => exact ⟨k + 1, HK.out, by go_num, by rw [HA.out], hb, hc, hz⟩
          case measure => simp [intOf]; omega
      · have hK := ob_eq_pow hk hlt
        have HV : Hid (Sw.vOutBy (Sw.toI G) S = Sw.obK G S k) := by show _ = _; rw [HF.out, hK]; rfl
        clear hk hK
        rcases hO : Sw.obK G S k with _ | b
        · rw [hO] at HV
          rw [show Sw.obI none = -1 from rfl]
          clear hO
          go_wp2_with fail
          go_ret2
          exact ⟨ret_ob (by rw [HV.out]; rfl) (by rw [HV.out]; rfl), hb⟩
        · rw [hO] at HV
          rw [show Sw.obI (some b) = (b : Int) from rfl]
          clear hO
          go_wp2_with fail
          go_ret2
          exact ⟨ret_ob (by rw [HV.out]; rfl) (by rw [HV.out]; rfl), hb⟩
end Go.Proofs.Ytnjfclfpjdbdnaa

