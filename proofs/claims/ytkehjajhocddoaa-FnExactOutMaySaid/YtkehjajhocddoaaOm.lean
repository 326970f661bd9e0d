/- OutMay of the program and of the reference, each by its contract. No conditions. -/
import Derived.Test.YtkehjajhocddoaaQs
namespace Go.Proofs.Ytkehjajhocddoaa
open Go.RowKit
theorem qs_lt {G : List Nat} {k : Nat} (h : k < (Sw.qs G).length) : Sw.nb (Sw.qs G) k < 2 ^ G.length := by
  have h1 : (Sw.qs G)[k]? = some (Sw.nb (Sw.qs G) k) := by
    unfold Sw.nb
    rw [List.getD_eq_getElem?_getD, List.getElem?_eq_getElem h]; rfl
  have h2 := List.mem_of_getElem? h1
  have h3 : Sw.nb (Sw.qs G) k ∈ (List.range (2 ^ G.length)).filter (fun s => Sw.prs G s == 0) := h2
  exact List.mem_range.1 (List.mem_filter.1 h3).1
theorem mayOut_no {G : List Nat} {S k : Nat} (h : k < (Sw.qs G).length) (h1 : Sw.cnt (Sw.nb (Sw.qs G) k &&& S) % 2 = 1) : Sw.mayOut G S = false := by
  unfold Sw.mayOut
  rw [List.all_eq_false]
  refine ⟨Sw.nb (Sw.qs G) k, ?_, ?_⟩
  · have h1 : (Sw.qs G)[k]? = some (Sw.nb (Sw.qs G) k) := by
      unfold Sw.nb
      rw [List.getD_eq_getElem?_getD, List.getElem?_eq_getElem h]; rfl
    exact List.mem_of_getElem? h1
  · rw [h1]; decide
theorem mayOut_yes {G : List Nat} {S : Nat} (h : ∀ k, k < (Sw.qs G).length → Sw.cnt (Sw.nb (Sw.qs G) k &&& S) % 2 = 0) : Sw.mayOut G S = true := by
  unfold Sw.mayOut
  rw [List.all_eq_true]
  intro x hx
  obtain ⟨k, hk, rfl⟩ := List.getElem_of_mem hx
  have := h k hk
  have e : Sw.nb (Sw.qs G) k = (Sw.qs G)[k] := by
    unfold Sw.nb
    rw [List.getD_eq_getElem?_getD, List.getElem?_eq_getElem hk]; rfl
  rw [e] at this
  rw [this]; rfl
theorem qs_len_le {G : List Nat} (hG : Sw.GVN G) : (Sw.qs G).length ≤ 512 := Nat.le_trans (Sw.qsK_len G _) (Sw.pow_le9 hG.le)
theorem implQsG (G : List Nat) (hG : Sw.GVN G) (ad : Addr) (c : Nat) (w : World) (hr : RdG w w.heap.size ad G) :
    Calls Try.prog 17 #[.agg #[.slice (some ad) G.length c]] w fun e w' => ∃ v, e = .returned v ∧ OwnI w' w.heap.size w'.heap.size v (Sw.toI (Sw.qs G)) ∧ Below w.heap.size w w' := by
  have h := implQuietSets (Sw.toI G) (some ad) c (by rw [Sw.toI_len]; have := hG.le; omega) w hr.toI
  rw [Sw.toI_len, Sw.vQs_yes hG] at h; exact h
theorem specQsG (G : List Nat) (hG : Sw.GVN G) (ad : Addr) (c : Nat) (w : World) (hr : RdG w w.heap.size ad G) :
    Calls Try.prog 16 #[.agg #[.slice (some ad) G.length c]] w fun e w' => ∃ v, e = .returned v ∧ OwnI w' w.heap.size w'.heap.size v (Sw.toI (Sw.qs G)) ∧ Below w.heap.size w w' := by
  have h := specQuietSets (Sw.toI G) (some ad) c (by rw [Sw.toI_len]; have := hG.le; omega) w hr.toI
  rw [Sw.toI_len, Sw.vQs_yes hG] at h; exact h
set_option maxHeartbeats 1000000 in
theorem implOutMay (l : List Int) (A : Option Addr) (c : Nat) (s : Int) (hl : l.length ≤ 1099511627776) (w : World) (hr : RdI w w.heap.size A l) :
    Calls Try.prog 25 #[.agg #[.slice A l.length c], .int .i64 s] w fun e w' => e = .returned (.bool (Sw.vOutMay l s)) ∧ Below w.heap.size w w' := by
  have hr1 := hr.at_ (below1 (.cells #[.slice A l.length c] 27))
  rcases Sw.svB_cases l s with hv | ⟨G, S, rfl, hG, rfl, hS⟩
  · have HF := Lib.hid (Sw.vOutMay_no hv)
    go_enter Try.func25, Try.ntmps25
    go_wp2_with fail
    refine (implSV_no l A c s hl hv _ hr1).mono ?_
    rintro e w1 ⟨rfl, hb⟩
    obtain ⟨hb, hc, hz⟩ := box_after hb
    go_wp2_with fail
    go_ret
    exact ⟨ret_b HF.out.symm, hb⟩
  · have HF := Lib.hid (Sw.vOutMay_yes hG hS)
    obtain ⟨ad, rfl, hrg⟩ := RdG.of hG hr
    have hn := hG.le
    have hS63 := lt63 hn hS
    rw [Sw.toI_len]
    go_enter Try.func25, Try.ntmps25
    go_wp2_with fail
    refine (implSV G hG S hS ad c _ (hrg.at_ (below1 _))).mono ?_
    rintro e w1 ⟨rfl, hb⟩
    obtain ⟨hb, hc, hz⟩ := box_after hb
    go_wp2_with fail
    refine (implQsG G hG ad c _ (hrg.at_ hb)).mono ?_
    rintro e w2 ⟨v, rfl, hO, hb2⟩
    obtain ⟨hb, hc, hz⟩ := box_next hb hc hz hb2
    obtain ⟨A2, c2, rfl, hrq⟩ := hO.rd
    have hql : ∀ k, k < (Sw.qs G).length → Sw.nb (Sw.qs G) k < 2 ^ G.length := fun k hk => qs_lt hk
    have hlen := qs_len_le hG
    have HN := Lib.hid (fun k => mayOut_no (G := G) (S := S) (k := k))
    have HY := Lib.hid (mayOut_yes (G := G) (S := S))
    obtain ⟨Q, hQ⟩ : ∃ Q, Q = Sw.qs G := ⟨_, rfl⟩
    rw [← hQ] at hrq hql hlen HN HY
    rw [← hQ]
    rw [Sw.toI_len]
    clear hO hQ hb2
    go_wp2_with fail
    go_loopw [14] (fun i wr => ∃ k : Nat, k ≤ Q.length ∧ i = .int .i64 k ∧ (∀ j, j < k → Sw.cnt (Sw.nb Q j &&& S) % 2 = 0) ∧ w2 = wr) (fun i _ => (Q.length - intOf i).toNat)
    case atStart => exact ⟨0, Nat.zero_le _, rfl, fun j hj => by omega, rfl⟩
    case round =>
      obtain ⟨k, hk, rfl, ho, rfl⟩ := hrel
      have HO := Lib.hid ho
      clear ho
      by_cases hlt : k < Q.length
      · have hd : decide ((k : Int) < (Q.length : Int)) = true := by rw [decide_eq_true_eq]; omega
        obtain ⟨ad2, rfl, hbl, hcq⟩ := hrq k (by rw [Sw.toI_len]; exact hlt)
        rw [Sw.gat_toI] at hcq
        have hq := hql k hlt
        have hand := i64_and (Sw.nb Q k) S (lt63 hn hq) hS63
        have hqa := lt40 hn (Sw.and_lt (a := Sw.nb Q k) hS)
        obtain ⟨B, hB⟩ : ∃ B, B = Sw.nb Q k &&& S := ⟨_, rfl⟩
        rw [← hB] at hand hqa
        have HB := Lib.hid hB
        clear hB hq
        by_cases h1 : Sw.cnt B % 2 = 1
        · have hV := HN.out k hlt (by rw [← HB.out]; exact h1)
          have HV : Hid (Sw.vOutMay (Sw.toI G) S = false) := by show _ = _; rw [HF.out, hV]
          clear hV
          go_wp2_with fail
          refine (countBits B hqa _).mono ?_
          rintro e w3 ⟨rfl, rfl⟩
          go_wp2_with fail
          go_ret
          exact ⟨ret_b HV.out.symm, hb⟩
        · have H1 : Hid (Sw.cnt (Sw.nb Q k &&& S) % 2 = 0) := by show _ = _; rw [← HB.out]; omega
          have h2 : ¬ (((Sw.cnt B : Nat) : Int) % 2 = 1) := by omega
          have h3 : (((Sw.cnt B : Nat) : Int) % 2 == 1) = false := by rw [beq_eq_false_iff_ne]; exact h2
          clear h1 h2
          go_wp2_with fail
          refine (countBits B hqa _).mono ?_
          rintro e w3 ⟨rfl, rfl⟩
          go_wp2_with fail
          go_roundw
          case rel =>
            refine ⟨k + 1, by omega, by go_num, fun j hj => ?_, by trivial⟩
            rcases Nat.lt_succ_iff_lt_or_eq.1 hj with q | q
            · exact HO.out j q
            · subst q; exact H1.out
          case measure => simp [intOf]; omega
      · have : k = Q.length := by omega
        subst this
        have hV := HY.out HO.out
        have HV : Hid (Sw.vOutMay (Sw.toI G) S = true) := by show _ = _; rw [HF.out, hV]
        clear hV
        go_wp2_with fail
        go_ret
        exact ⟨ret_b HV.out.symm, hb⟩
set_option maxHeartbeats 1000000 in
theorem specOutMay (l : List Int) (A : Option Addr) (c : Nat) (s : Int) (hl : l.length ≤ 1099511627776) (w : World) (hr : RdI w w.heap.size A l) :
    Calls Try.prog 24 #[.agg #[.slice A l.length c], .int .i64 s] w fun e w' => e = .returned (.bool (Sw.vOutMay l s)) ∧ Below w.heap.size w w' := by
  have hr1 := hr.at_ (below1 (.cells #[.slice A l.length c] 27))
  rcases Sw.svB_cases l s with hv | ⟨G, S, rfl, hG, rfl, hS⟩
  · have HF := Lib.hid (Sw.vOutMay_no hv)
    have hlen : (Sw.vQs l).length ≤ 512 := by
      rcases Sw.gvB_cases l with hv | ⟨G, rfl, hG⟩
      · rw [Sw.vQs_no hv]; simp
      · rw [Sw.vQs_yes hG]; exact qs_len_le hG
    by_cases h0 : 0 < (Sw.vQs l).length
    · go_enter Try.func24, Try.ntmps24
      go_wp2_with fail
      refine (specQuietSets l A c hl _ hr1).mono ?_
      rintro e w2 ⟨v, rfl, hO, hb2⟩
      obtain ⟨hb, hc, hz⟩ := box_after hb2
      obtain ⟨A2, c2, rfl, hrq⟩ := hO.rd
      rw [Sw.toI_len]
      obtain ⟨n, hn⟩ : ∃ n, n = (Sw.vQs l).length := ⟨_, rfl⟩
      rw [← hn] at h0 hlen ⊢
      have hd : decide ((0 : Int) < (n : Int)) = true := by rw [decide_eq_true_eq]; omega
      clear hn hO hrq
      go_wp2_with fail
      refine wp_loop_rounds 1 ?_
      rw [rounds_succ]
      go_wp2_with fail
      refine (specSV_no l A c s hl hv _ (hr.at_ hb)).mono ?_
      rintro e w3 ⟨rfl, hb3⟩
      obtain ⟨hb, hc, hz⟩ := box_next hb hc hz hb3
      go_wp2_with fail
      refine (specSV_no l A c s hl hv _ (hr.at_ hb)).mono ?_
      rintro e w4 ⟨rfl, hb4⟩
      obtain ⟨hb, hc, hz⟩ := box_next hb hc hz hb4
      go_wp2_with fail
      go_ret
      exact ⟨ret_b HF.out.symm, hb⟩
    · go_enter Try.func24, Try.ntmps24
      go_wp2_with fail
      refine (specQuietSets l A c hl _ hr1).mono ?_
      rintro e w2 ⟨v, rfl, hO, hb2⟩
      obtain ⟨hb, hc, hz⟩ := box_after hb2
      obtain ⟨A2, c2, rfl, hrq⟩ := hO.rd
      rw [Sw.toI_len]
      obtain ⟨n, hn⟩ : ∃ n, n = (Sw.vQs l).length := ⟨_, rfl⟩
      rw [← hn] at h0 hlen ⊢
      have hd : decide ((0 : Int) < (n : Int)) = false := by rw [decide_eq_false_iff_not]; omega
      clear hn hO hrq
      go_wp2_with fail
      refine wp_loop_rounds 1 ?_
      rw [rounds_succ]
      go_wp2_with fail
      refine (specSV_no l A c s hl hv _ (hr.at_ hb)).mono ?_
      rintro e w4 ⟨rfl, hb4⟩
      obtain ⟨hb, hc, hz⟩ := box_next hb hc hz hb4
      go_wp2_with fail
      go_ret
      exact ⟨ret_b HF.out.symm, hb⟩
  · have HF := Lib.hid (Sw.vOutMay_yes hG hS)
    obtain ⟨ad, rfl, hrg⟩ := RdG.of hG hr
    have hn := hG.le
    have hS40 := lt40 hn hS
    rw [Sw.toI_len]
    go_enter Try.func24, Try.ntmps24
    go_wp2_with fail
    refine (specQsG G hG ad c _ (hrg.at_ (below1 _))).mono ?_
    rintro e w2 ⟨v, rfl, hO, hb2⟩
    obtain ⟨hb, hc, hz⟩ := box_after hb2
    obtain ⟨A2, c2, rfl, hrq⟩ := hO.rd
    have hql : ∀ k, k < (Sw.qs G).length → Sw.nb (Sw.qs G) k < 2 ^ G.length := fun k hk => qs_lt hk
    have hlen := qs_len_le hG
    have HN := Lib.hid (fun k => mayOut_no (G := G) (S := S) (k := k))
    have HY := Lib.hid (mayOut_yes (G := G) (S := S))
    obtain ⟨Q, hQ⟩ : ∃ Q, Q = Sw.qs G := ⟨_, rfl⟩
    rw [← hQ] at hrq hql hlen HN HY
    rw [← hQ]
    rw [Sw.toI_len]
    clear hO hQ hb2
    go_wp2_with fail
    go_loopw [6] (fun i wr => ∃ k : Nat, k ≤ Q.length ∧ i = .int .i64 k ∧ (∀ j, j < k → Sw.cnt (Sw.nb Q j &&& S) % 2 = 0) ∧ Below w2.heap.size w2 wr) (fun i _ => (Q.length - intOf i).toNat)
    case atStart => exact ⟨0, Nat.zero_le _, rfl, fun j hj => by omega, Below.refl _ _⟩
    case round =>
      obtain ⟨k, hk, rfl, ho, hbr⟩ := hrel
      have hrqr := hrq.at_ hbr
      obtain ⟨hb', hc', hz'⟩ := box_next hb hc hz hbr
      have HO := Lib.hid ho
      have hbr0 := Lib.hid hbr
      clear ho hbr
      by_cases hlt : k < Q.length
      · have hd : decide ((k : Int) < (Q.length : Int)) = true := by rw [decide_eq_true_eq]; omega
        have hq := hql k hlt
        have hq40 := lt40 hn hq
        have hqa := lt40 hn (Sw.and_lt (a := Sw.nb Q k) hS)
        have hBo := fun W => l1Both (Sw.nb Q k) S hq40 hS40 W
        obtain ⟨B, hB⟩ : ∃ B, B = Sw.nb Q k &&& S := ⟨_, rfl⟩
        rw [← hB] at hBo hqa
        have HB := Lib.hid hB
        clear hB hq
        by_cases h1 : Sw.cnt B % 2 = 1
        · have hV := HN.out k hlt (by rw [← HB.out]; exact h1)
          have HV : Hid (Sw.vOutMay (Sw.toI G) S = false) := by show _ = _; rw [HF.out, hV]
          clear hV
          go_wp2_with fail
          refine (specSV G hG S hS ad c _ (hrg.at_ hb')).mono ?_
          rintro e w3 ⟨rfl, hb3⟩
          obtain ⟨ad2, e2, hbl, hcq⟩ := hrqr.at_ hb3 k (by rw [Sw.toI_len]; exact hlt)
          rw [Sw.gat_toI] at hcq
          obtain ⟨hb', hc', hz'⟩ := box_next hb' hc' hz' hb3
          subst e2
          go_wp2_with fail
          refine (hBo _).mono ?_
          rintro e w3 ⟨rfl, rfl⟩
          go_wp2_with fail
          refine (l1Many B hqa _).mono ?_
          rintro e w3 ⟨rfl, rfl⟩
          go_wp2_with fail
          go_ret
          exact ⟨ret_b HV.out.symm, hb'⟩
        · have H1 : Hid (Sw.cnt (Sw.nb Q k &&& S) % 2 = 0) := by show _ = _; rw [← HB.out]; omega
          have h2 : ¬ (((Sw.cnt B : Nat) : Int) % 2 = 1) := by omega
          have h3 : (((Sw.cnt B : Nat) : Int) % 2 == 1) = false := by rw [beq_eq_false_iff_ne]; exact h2
          clear h1 h2
          go_wp2_with fail
          refine (specSV G hG S hS ad c _ (hrg.at_ hb')).mono ?_
          rintro e w3 ⟨rfl, hb3⟩
          obtain ⟨ad2, e2, hbl, hcq⟩ := hrqr.at_ hb3 k (by rw [Sw.toI_len]; exact hlt)
          rw [Sw.gat_toI] at hcq
          have hbr : Below w2.heap.size w2 w3 := by
            have := hbr0.out
            exact this.trans (hb3.mono this.size)
          obtain ⟨hb', hc', hz'⟩ := box_next hb' hc' hz' hb3
          subst e2
          go_wp2_with fail
          refine (hBo _).mono ?_
          rintro e w3 ⟨rfl, rfl⟩
          go_wp2_with fail
          refine (l1Many B hqa _).mono ?_
          rintro e w3 ⟨rfl, rfl⟩
          go_wp2_with fail
          go_roundw
          case rel =>
            refine ⟨k + 1, by omega, by go_num, fun j hj => ?_, hbr⟩
            rcases Nat.lt_succ_iff_lt_or_eq.1 hj with q | q
            · exact HO.out j q
            · subst q; exact H1.out
          case measure => simp [intOf]; omega
      · have : k = Q.length := by omega
        subst this
        have hV := HY.out HO.out
        have HV : Hid (Sw.vOutMay (Sw.toI G) S = true) := by show _ = _; rw [HF.out, hV]
        have hd : decide ((Q.length : Int) < (Q.length : Int)) = false := by rw [decide_eq_false_iff_not]; omega
        clear hV
        go_wp2_with fail
        refine (specSV G hG S hS ad c _ (hrg.at_ hb')).mono ?_
        rintro e w3 ⟨rfl, hb3⟩
        obtain ⟨hb', hc', hz'⟩ := box_next hb' hc' hz' hb3
        go_wp2_with fail
        go_ret
        exact ⟨ret_b HV.out.symm, hb'⟩
end Go.Proofs.Ytkehjajhocddoaa

