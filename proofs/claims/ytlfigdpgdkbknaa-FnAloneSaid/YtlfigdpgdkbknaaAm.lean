/- AloneMost and CoverLeast of the program and of the reference, each by its contract. No conditions. -/
import Derived.Test.YtlfigdpgdkbknaaPart
namespace Go.Proofs.Ytlfigdpgdkbknaa
open Go.RowKit
theorem lt_pow_nat {k n : Nat} (h : (k : Int) < 2 ^ n) : k < 2 ^ n := by rw [pow_nat] at h; omega
theorem lt_pow_int {k n : Nat} (h : k < 2 ^ n) : (k : Int) < 2 ^ n := by rw [pow_nat]; omega
theorem eq_pow_nat {k n : Nat} (h : k ≤ 2 ^ n) (h' : ¬ (k : Int) < 2 ^ n) : k = 2 ^ n := by rw [pow_nat] at h'; omega
theorem amK_le (G : List Nat) : ∀ m, m ≤ 512 → Sw.amK G m ≤ 64
  | 0, _ => by show (0 : Nat) ≤ 64; omega
  | m + 1, h => by
    have := amK_le G m (by omega)
    have := Sw.cnt_le (s := m) (n := 64) (by omega) (by omega)
    rw [Sw.amK_succ]
    split <;> omega
theorem max_nat (a b : Nat) : max (a : Int) (b : Int) = ((max a b : Nat) : Int) := by omega
theorem specAloneG (G : List Nat) (hG : Sw.GVN G) (S : Nat) (hS : S < 2 ^ G.length) (ad : Addr) (c : Nat) (w : World) (hr : RdG w w.heap.size ad G) :
    Calls Try.prog 22 #[.agg #[.slice (some ad) G.length c], .int .i64 S] w fun e w' => e = .returned (.bool (decide (Sw.bes G S &&& S = 0))) ∧ Below w.heap.size w w' := by
  have h := specAlone (Sw.toI G) (some ad) c S (by rw [Sw.toI_len]; have := hG.le; omega) w hr.toI
  rw [Sw.toI_len, Sw.vAlone_yes hG hS] at h; exact h
theorem implAloneMost (l : List Int) (A : Option Addr) (c : Nat) (hl : l.length ≤ 1099511627776) (w : World) (hr : RdI w w.heap.size A l) :
    Calls Try.prog 24 #[.agg #[.slice A l.length c]] w fun e w' => e = .returned (.int .i64 (Sw.vAm l)) ∧ Below w.heap.size w w' := by
  have hr1 := hr.at_ (below1 (.cells #[.slice A l.length c] 25))
  rcases Sw.gvB_cases l with hv | ⟨G, rfl, hG⟩
  · have HF := Lib.hid (Sw.vAm_no hv)
    go_enter Try.func24, Try.ntmps24
    go_wp2_with fail
    refine (implGraphValid_no l A c hl hv _ hr1).mono ?_
    rintro e w1 ⟨rfl, hb⟩
    obtain ⟨hb, hc, hz⟩ := box_after hb
    go_wp2_with fail
    go_ret
    exact ⟨ret_i HF.out.symm, hb⟩
  · have HF := Lib.hid (Sw.vAm_yes hG)
    obtain ⟨ad, rfl, hrg⟩ := RdG.of hG hr
    have hn := hG.le
    have hp := pow9 hG.le
    have hp1 := pow1 G.length
    rw [Sw.toI_len]
    go_enter Try.func24, Try.ntmps24
    go_wp2_with fail
    refine (implGV G hG ad c _ (hrg.at_ (below1 _))).mono ?_
    rintro e w1 ⟨rfl, hb⟩
    obtain ⟨hb, hc, hz⟩ := box_after hb
    go_wp2_with fail
    go_loopw [3, 12] (fun x i wr => ∃ k : Nat, k ≤ 2 ^ G.length ∧ i = .int .i64 k ∧ x = .int .i64 (Sw.amK G k : Nat) ∧ Below w.heap.size w wr ∧ wr.cell? ⟨w.heap.size, 0, none⟩ = some (.slice (some ad) G.length c) ∧ w.heap.size < wr.heap.size) (fun _ i _ => (1024 - intOf i).toNat)
    case atStart => exact ⟨0, Nat.zero_le _, rfl, rfl, hb, hc, hz⟩
    case round =>
      obtain ⟨k, hk, rfl, rfl, hb, hc, hz⟩ := hrel
      have h512 := Sw.pow_le9 hn
      by_cases hlt : (k : Int) < 2 ^ G.length
      · have HN := Lib.hid (lt_pow_nat hlt)
        have hand := i64_and (Sw.bes G k) k (lt63 hn (Sw.bes_lt hG k)) (lt63 hn HN.out)
        have hcl := Sw.cnt_le (s := k) (n := 9) (by omega) (by omega)
        have HA := Lib.hid (Sw.amK_succ G k)
        have hal := amK_le G k (by omega)
        have hk40 := lt40 hn HN.out
        have HK : Hid (k + 1 ≤ 2 ^ G.length) := by have := HN.out; show _ ≤ _; omega
        clear hk h512
        go_wp2_with fail
        refine (besideUnion G hG ad c k hk40 _ (hrg.at_ hb)).mono ?_
        rintro e w2 ⟨rfl, hb2⟩
        obtain ⟨hb, hc, hz⟩ := box_next hb hc hz hb2
        by_cases h0 : Sw.bes G k &&& k = 0
        · rw [if_pos h0] at HA
          rw [h0] at hand
          clear h0
          go_wp2_with fail
          refine (countBits k hk40 _).mono ?_
          rintro e w3 ⟨rfl, rfl⟩
          go_wp2_with fail
          go_roundw
          case rel => exact ⟨k + 1, HK.out, by go_num, val_i (by rw [HA.out]; omega), hb, hc, hz⟩
          case measure => simp [intOf]; omega
        · rw [if_neg h0] at HA
          have hne : (((Sw.bes G k &&& k : Nat) : Int) == 0) = false := by rw [beq_nat_zero]; exact decide_eq_false h0
          clear h0
          go_wp2_with fail
          go_roundw
          case rel => exact ⟨k + 1, HK.out, by go_num, val_i (by rw [HA.out]), hb, hc, hz⟩
          case measure => simp [intOf]; omega
      · have HK := Lib.hid (eq_pow_nat hk hlt)
        clear hk
        go_wp2_with fail
        go_ret
        exact ⟨ret_i (by rw [HF.out, HK.out]; rfl), hb⟩
theorem specAloneMost (l : List Int) (A : Option Addr) (c : Nat) (hl : l.length ≤ 1099511627776) (w : World) (hr : RdI w w.heap.size A l) :
    Calls Try.prog 26 #[.agg #[.slice A l.length c]] w fun e w' => e = .returned (.int .i64 (Sw.vAm l)) ∧ Below w.heap.size w w' := by
  have hr1 := hr.at_ (below1 (.cells #[.slice A l.length c] 25))
  rcases Sw.gvB_cases l with hv | ⟨G, rfl, hG⟩
  · have HF := Lib.hid (Sw.vAm_no hv)
    go_enter Try.func26, Try.ntmps26
    go_wp2_with fail
    refine (specGraphValid_no l A c hl hv _ hr1).mono ?_
    rintro e w1 ⟨rfl, hb⟩
    obtain ⟨hb, hc, hz⟩ := box_after hb
    go_wp2_with fail
    go_ret
    exact ⟨ret_i HF.out.symm, hb⟩
  · have HF := Lib.hid (Sw.vAm_yes hG)
    obtain ⟨ad, rfl, hrg⟩ := RdG.of hG hr
    have hn := hG.le
    have hp := pow9 hG.le
    have hp1 := pow1 G.length
    rw [Sw.toI_len]
    go_enter Try.func26, Try.ntmps26
    go_wp2_with fail
    refine (specGV G hG ad c _ (hrg.at_ (below1 _))).mono ?_
    rintro e w1 ⟨rfl, hb⟩
    obtain ⟨hb, hc, hz⟩ := box_after hb
    go_wp2_with fail
    go_loopw [3, 4] (fun x i wr => ∃ k : Nat, k ≤ 2 ^ G.length ∧ i = .int .i64 k ∧ x = .int .i64 (Sw.amK G k : Nat) ∧ Below w.heap.size w wr ∧ wr.cell? ⟨w.heap.size, 0, none⟩ = some (.slice (some ad) G.length c) ∧ w.heap.size < wr.heap.size) (fun _ i _ => (1024 - intOf i).toNat)
    case atStart => exact ⟨0, Nat.zero_le _, rfl, rfl, hb, hc, hz⟩
    case round =>
      obtain ⟨k, hk, rfl, rfl, hb, hc, hz⟩ := hrel
      have h512 := Sw.pow_le9 hn
      by_cases hlt : (k : Int) < 2 ^ G.length
      · have HN := Lib.hid (lt_pow_nat hlt)
        have hcl := Sw.cnt_le (s := k) (n := 9) (by omega) (by omega)
        have HA := Lib.hid (Sw.amK_succ G k)
        have hal := amK_le G k (by omega)
        have hk40 := lt40 hn HN.out
        have HK : Hid (k + 1 ≤ 2 ^ G.length) := by have := HN.out; show _ ≤ _; omega
        clear hk h512
        by_cases h0 : Sw.bes G k &&& k = 0
        · rw [if_pos h0] at HA
          have HC := Lib.hid (specAloneG G hG k HN.out ad c)
          rw [decide_eq_true h0] at HC
          clear h0
          go_wp2_with fail
          refine (HC.out _ (hrg.at_ hb)).mono ?_
          rintro e w2 ⟨rfl, hb2⟩
          obtain ⟨hb, hc, hz⟩ := box_next hb hc hz hb2
          go_wp2_with fail
          refine (l1Many k hk40 _).mono ?_
          rintro e w3 ⟨rfl, rfl⟩
          go_wp2_with fail
          go_roundw
          case rel => exact ⟨k + 1, HK.out, by go_num, val_i (by rw [HA.out]; omega), hb, hc, hz⟩
          case measure => simp [intOf]; omega
        · rw [if_neg h0] at HA
          have HC := Lib.hid (specAloneG G hG k HN.out ad c)
          rw [decide_eq_false h0] at HC
          clear h0
          go_wp2_with fail
          refine (HC.out _ (hrg.at_ hb)).mono ?_
          rintro e w2 ⟨rfl, hb2⟩
          obtain ⟨hb, hc, hz⟩ := box_next hb hc hz hb2
          go_wp2_with fail
          go_roundw
          case rel => exact ⟨k + 1, HK.out, by go_num, val_i (by rw [HA.out]), hb, hc, hz⟩
          case measure => simp [intOf]; omega
      · have HK := Lib.hid (eq_pow_nat hk hlt)
        clear hk
        go_wp2_with fail
        go_ret
        exact ⟨ret_i (by rw [HF.out, HK.out]; rfl), hb⟩
theorem implAmG (G : List Nat) (hG : Sw.GVN G) (ad : Addr) (c : Nat) (w : World) (hr : RdG w w.heap.size ad G) :
    Calls Try.prog 24 #[.agg #[.slice (some ad) G.length c]] w fun e w' => e = .returned (.int .i64 (Sw.am G : Nat)) ∧ Below w.heap.size w w' := by
  have h := implAloneMost (Sw.toI G) (some ad) c (by rw [Sw.toI_len]; have := hG.le; omega) w hr.toI
  rw [Sw.toI_len, Sw.vAm_yes hG] at h; exact h
theorem implCoverLeast (l : List Int) (A : Option Addr) (c : Nat) (hl : l.length ≤ 1099511627776) (w : World) (hr : RdI w w.heap.size A l) :
    Calls Try.prog 28 #[.agg #[.slice A l.length c]] w fun e w' => e = .returned (.int .i64 (Sw.vCover l)) ∧ Below w.heap.size w w' := by
  have hr1 := hr.at_ (below1 (.cells #[.slice A l.length c] 25))
  rcases Sw.gvB_cases l with hv | ⟨G, rfl, hG⟩
  · have HF := Lib.hid (Sw.vCover_no hv)
    go_enter Try.func28, Try.ntmps28
    go_wp2_with fail
    refine (implGraphValid_no l A c hl hv _ hr1).mono ?_
    rintro e w1 ⟨rfl, hb⟩
    obtain ⟨hb, hc, hz⟩ := box_after hb
    go_wp2_with fail
    go_ret
    exact ⟨ret_i HF.out.symm, hb⟩
  · have HF := Lib.hid (Sw.vCover_yes hG)
    obtain ⟨ad, rfl, hrg⟩ := RdG.of hG hr
    have hn := hG.le
    have ham : Sw.am G ≤ 64 := amK_le G _ (Sw.pow_le9 hn)
    have hwr : IntKind.i64.wrap ((G.length : Int) - (Sw.am G : Nat)) = (G.length : Int) - (Sw.am G : Nat) := IntWalk.i64_in _ (by omega)
    rw [Sw.toI_len]
    go_enter Try.func28, Try.ntmps28
    go_wp2_with fail
    refine (implGV G hG ad c _ (hrg.at_ (below1 _))).mono ?_
    rintro e w1 ⟨rfl, hb⟩
    obtain ⟨hb, hc, hz⟩ := box_after hb
    have hra := hrg.at_ hb
    go_wp2_with fail
    go_region_held3 (fun w' => w'.cell? ⟨w.heap.size, 0, none⟩ = some (.slice (some ad) G.length c)) (first | exact hc | exact hS2) (first | (go_at_call 24; refine (implAmG G hG ad c _ (by exact hra)).mono ?_; rintro e w2 ⟨rfl, hb2⟩; obtain ⟨hb3, hS2, hz3⟩ := box_next (w1 := w1) (w2 := w2) hb hc hz (undrew (by exact hb2))))
    go_wp2_with fail
    go_ret
    exact ⟨ret_i (by rw [HF.out]), hb3⟩
theorem specAmG (G : List Nat) (hG : Sw.GVN G) (ad : Addr) (c : Nat) (w : World) (hr : RdG w w.heap.size ad G) :
    Calls Try.prog 26 #[.agg #[.slice (some ad) G.length c]] w fun e w' => e = .returned (.int .i64 (Sw.am G : Nat)) ∧ Below w.heap.size w w' := by
  have h := specAloneMost (Sw.toI G) (some ad) c (by rw [Sw.toI_len]; have := hG.le; omega) w hr.toI
  rw [Sw.toI_len, Sw.vAm_yes hG] at h; exact h
theorem specCoverLeast (l : List Int) (A : Option Addr) (c : Nat) (hl : l.length ≤ 1099511627776) (w : World) (hr : RdI w w.heap.size A l) :
    Calls Try.prog 29 #[.agg #[.slice A l.length c]] w fun e w' => e = .returned (.int .i64 (Sw.vCover l)) ∧ Below w.heap.size w w' := by
  have hr1 := hr.at_ (below1 (.cells #[.slice A l.length c] 25))
  rcases Sw.gvB_cases l with hv | ⟨G, rfl, hG⟩
  · have HF := Lib.hid (Sw.vCover_no hv)
    go_enter Try.func29, Try.ntmps29
    go_wp2_with fail
    refine (specGraphValid_no l A c hl hv _ hr1).mono ?_
    rintro e w1 ⟨rfl, hb⟩
    obtain ⟨hb, hc, hz⟩ := box_after hb
    go_wp2_with fail
    go_ret
    exact ⟨ret_i HF.out.symm, hb⟩
  · have HF := Lib.hid (Sw.vCover_yes hG)
    obtain ⟨ad, rfl, hrg⟩ := RdG.of hG hr
    have hn := hG.le
    have ham : Sw.am G ≤ 64 := amK_le G _ (Sw.pow_le9 hn)
    have hwr : IntKind.i64.wrap ((G.length : Int) - (Sw.am G : Nat)) = (G.length : Int) - (Sw.am G : Nat) := IntWalk.i64_in _ (by omega)
    rw [Sw.toI_len]
    go_enter Try.func29, Try.ntmps29
    go_wp2_with fail
    refine (specGV G hG ad c _ (hrg.at_ (below1 _))).mono ?_
    rintro e w1 ⟨rfl, hb⟩
    obtain ⟨hb, hc, hz⟩ := box_after hb
    have hra := hrg.at_ hb
    go_wp2_with fail
    go_region_held3 (fun w' => w'.cell? ⟨w.heap.size, 0, none⟩ = some (.slice (some ad) G.length c)) (first | exact hc | exact hS2) (first | (go_at_call 26; refine (specAmG G hG ad c _ (by exact hra)).mono ?_; rintro e w2 ⟨rfl, hb2⟩; obtain ⟨hb3, hS2, hz3⟩ := box_next (w1 := w1) (w2 := w2) hb hc hz (undrew (by exact hb2))))
    go_wp2_with fail
    go_ret
    exact ⟨ret_i (by rw [HF.out]), hb3⟩
end Go.Proofs.Ytlfigdpgdkbknaa

