/- PartOf, Whole and Alone of the program and of the reference, each by its contract. No conditions. -/
import Derived.Test.YtlfigdpgdkbknaaBes
import Derived.WalkMore
import Derived.ScopeJumps
import Derived.Deep.RegionHeld3
import Derived.Deep.DeepCutAuto
namespace Go.Proofs.Ytlfigdpgdkbknaa
open Go.RowKit
/-- what holds at each jump back of partFrom -/
def PFJ (G : List Nat) (ad : Addr) (c p : Nat) (w : World) (a' : Act) (w' : World) : Prop :=
  ∃ (s : Nat) (u6 u7 u8 u9 u10 u11 u12 u13 u14 u15 u16 u17 : Value), a' = { tmps := #[.agg #[.slice (some ad) G.length c], .int .i64 p, .pointer (some ⟨w.heap.size, 0, none⟩), undef, .int .i64 0, .int .i64 s, u6, u7, u8, u9, u10, u11, u12, u13, u14, u15, u16, u17, undef], defers := [] } ∧
    s < 2 ^ G.length ∧ Sw.part G s = Sw.pt G p ∧ Below w.heap.size w w' ∧ w'.cell? ⟨w.heap.size, 0, none⟩ = some (.slice (some ad) G.length c) ∧ w.heap.size < w'.heap.size
set_option maxRecDepth 100000 in
theorem partFrom (G : List Nat) (hG : Sw.GVN G) (ad : Addr) (c p : Nat) (hp : p < G.length) (w : World) (hr : RdG w w.heap.size ad G) :
    Calls Try.prog 38 #[.agg #[.slice (some ad) G.length c], .int .i64 p] w fun e w' => e = .returned (.int .i64 (Sw.pt G p : Nat)) ∧ Below w.heap.size w w' := by
  have hn := hG.le
  have hpp : (2 : Int) ^ p ≤ 512 := pow9 (by omega)
  have hpp1 := pow1 p
  go_enter Try.func38, Try.ntmps38
  go_wp2_with fail
  refine wp_scope_jumps 0 (PFJ G ad c p w) (fun a' _ => (1024 - intOf (a'.tmps.getD 5 undef)).toNat) rfl ?_ ?_
  · go_wp2_with fail
    go_step3
    go_wp2_with fail
    rw [pow_nat p]
    have hlt := Sw.two_lt hp
    have hpt : Sw.part G (2 ^ p) = Sw.pt G p := rfl
    clear hpp hpp1
    generalize 2 ^ p = s at *
    have HP := Lib.hid hpt
    clear hpt
    have hs40 := lt40 hn hlt
    refine (besideUnion G hG ad c s hs40 _ (hr.at_ (below1 _))).mono ?_
    rintro e w1 ⟨rfl, hb⟩
    obtain ⟨hb, hc, hz⟩ := box_after hb
    have hor := i64_or s (Sw.bes G s) (lt63 hn hlt) (lt63 hn (Sw.bes_lt hG s))
    have hge := Sw.step_ge G s
    have hsl := Sw.step_lt hG hlt
    have hps := Sw.part_step hG hlt
    by_cases hd : s ||| Sw.bes G s = s
    · have hpd := Sw.part_done (G := G) (s := s) hd
      have HD : Hid (Sw.pt G p = s) := by rw [← HP.out]; exact hpd
      rw [hd] at hor
      clear hd hge hsl hps hpd
      go_wp2_with fail
      simp only [Exit.jump]
      go_ret
      exact ⟨ret_i (by rw [HD.out]), hb⟩
    · have hne : (((s ||| Sw.bes G s : Nat) : Int) != (s : Int)) = true := by
        rw [bne_iff_ne]; intro e; exact hd (by exact_mod_cast e)
      have HS := Lib.hid hps
      clear hps hd hge
      go_wp2_with fail
      go_step3
      exact ⟨rfl, _, _, _, _, _, _, _, _, _, _, _, _, _, rfl, hsl, HS.out.trans HP.out, hb, hc, hz⟩
  · rintro a' w' ⟨s, u6, u7, u8, u9, u10, u11, u12, u13, u14, u15, u16, u17, rfl, hlt, hpt, hb, hc, hz⟩
    have HP := Lib.hid hpt
    clear hpt hpp hpp1
    have hs40 := lt40 hn hlt
    go_wp2_with fail
    refine (besideUnion G hG ad c s hs40 _ (hr.at_ hb)).mono ?_
    rintro e w1 ⟨rfl, hb1⟩
    obtain ⟨hb, hc, hz⟩ := box_next hb hc hz hb1
    have hor := i64_or s (Sw.bes G s) (lt63 hn hlt) (lt63 hn (Sw.bes_lt hG s))
    have hge := Sw.step_ge G s
    have hsl := Sw.step_lt hG hlt
    have hps := Sw.part_step hG hlt
    have h512 := Sw.pow_le9 hn
    by_cases hd : s ||| Sw.bes G s = s
    · have hpd := Sw.part_done (G := G) (s := s) hd
      have HD : Hid (Sw.pt G p = s) := by rw [← HP.out]; exact hpd
      rw [hd] at hor
      clear hd hge hsl hps hpd
      go_wp2_with fail
      simp only [Exit.jump]
      go_ret
      exact ⟨ret_i (by rw [HD.out]), hb⟩
    · have hne : (((s ||| Sw.bes G s : Nat) : Int) != (s : Int)) = true := by
        rw [bne_iff_ne]; intro e; exact hd (by exact_mod_cast e)
      have HS := Lib.hid hps
      have hgt : s < s ||| Sw.bes G s := Nat.lt_of_le_of_ne hge fun e => hd e.symm
      have hm : (1024 - intOf (.int .i64 ((s ||| Sw.bes G s : Nat) : Int))).toNat < (1024 - intOf (.int .i64 (s : Int))).toNat := by
        unfold Sw.step at hsl
        simp only [intOf]; omega
      have HM := Lib.hid hm
      clear hps hd hge hm hgt
      go_wp2_with fail
      go_step3
      exact ⟨rfl, ⟨_, _, _, _, _, _, _, _, _, _, _, _, _, rfl, hsl, HS.out.trans HP.out, hb, hc, hz⟩, HM.out⟩
theorem implPartOf (l : List Int) (A : Option Addr) (c : Nat) (p : Int) (hl : l.length ≤ 1099511627776) (w : World) (hr : RdI w w.heap.size A l) :
    Calls Try.prog 10 #[.agg #[.slice A l.length c], .int .i64 p] w fun e w' => e = .returned (.int .i64 (Sw.vPart l p)) ∧ Below w.heap.size w w' := by
  have hr1 := hr.at_ (below1 (.cells #[.slice A l.length c] 25))
  rcases Sw.ptB_cases l p with hv | ⟨G, k, rfl, hG, rfl, hk⟩
  · have HF := Lib.hid (Sw.vPart_no hv)
    rcases Sw.gvB_cases l with hg | ⟨G, rfl, hG⟩
    · clear hv
      go_enter Try.func10, Try.ntmps10
      go_wp2_with fail
      refine (implGraphValid l A c hl _ hr1).mono ?_
      rintro e w1 ⟨rfl, hb⟩
      obtain ⟨hb, hc, hz⟩ := box_after hb
      go_wp2_with fail
      go_ret
      exact ⟨ret_i HF.out.symm, hb⟩
    · have hg := Sw.gvB_yes hG
      have hcase : p < 0 ∨ ((Sw.toI G).length : Int) ≤ p := by
        rcases Sw.ptB_no hv with h | h
        · rw [hg] at h; cases h
        · exact h
      clear hv
      rcases hcase with h | h
      all_goals
        go_enter Try.func10, Try.ntmps10
        go_wp2_with fail
        refine (implGraphValid (Sw.toI G) A c hl _ hr1).mono ?_
        rintro e w1 ⟨rfl, hb⟩
        obtain ⟨hb, hc, hz⟩ := box_after hb
        go_wp2_with fail
        go_ret
        exact ⟨ret_i HF.out.symm, hb⟩
  · have hg := Sw.gvB_yes hG
    have HF := Lib.hid (Sw.vPart_yes hG hk)
    obtain ⟨ad, rfl, hrg⟩ := RdG.of hG hr
    have hkl : (k : Int) < ((Sw.toI G).length : Int) := by rw [Sw.toI_len]; omega
    go_enter Try.func10, Try.ntmps10
    go_wp2_with fail
    refine (implGraphValid (Sw.toI G) (some ad) c hl _ hr1).mono ?_
    rintro e w1 ⟨rfl, hb⟩
    obtain ⟨hb, hc, hz⟩ := box_after hb
    go_wp2_with fail
    rw [Sw.toI_len]
    rw [Sw.toI_len] at hc
    refine (partFrom G hG ad c k hk _ (hrg.at_ hb)).mono ?_
    rintro e w2 ⟨rfl, hb2⟩
    obtain ⟨hb, hc, hz⟩ := box_next hb hc hz hb2
    go_wp2_with fail
    go_ret
    exact ⟨ret_i HF.out.symm, hb⟩
theorem specPartOf (l : List Int) (A : Option Addr) (c : Nat) (p : Int) (hl : l.length ≤ 1099511627776) (w : World) (hr : RdI w w.heap.size A l) :
    Calls Try.prog 11 #[.agg #[.slice A l.length c], .int .i64 p] w fun e w' => e = .returned (.int .i64 (Sw.vPart l p)) ∧ Below w.heap.size w w' := by
  have hr1 := hr.at_ (below1 (.cells #[.slice A l.length c] 25))
  rcases Sw.ptB_cases l p with hv | ⟨G, k, rfl, hG, rfl, hk⟩
  · have HF := Lib.hid (Sw.vPart_no hv)
    rcases Sw.gvB_cases l with hg | ⟨G, rfl, hG⟩
    · clear hv
      go_enter Try.func11, Try.ntmps11
      go_wp2_with fail
      refine (specGraphValid l A c hl _ hr1).mono ?_
      rintro e w1 ⟨rfl, hb⟩
      obtain ⟨hb, hc, hz⟩ := box_after hb
      go_wp2_with fail
      go_ret
      exact ⟨ret_i HF.out.symm, hb⟩
    · have hg := Sw.gvB_yes hG
      have hcase : p < 0 ∨ ((Sw.toI G).length : Int) - 1 < p := by
        rcases Sw.ptB_no hv with h | h
        · rw [hg] at h; cases h
        · omega
      have HC := Lib.hid hcase
      clear hv hcase
      go_enter Try.func11, Try.ntmps11
      go_wp2_with fail
      refine (specGraphValid (Sw.toI G) A c hl _ hr1).mono ?_
      rintro e w1 ⟨rfl, hb⟩
      obtain ⟨hb, hc, hz⟩ := box_after hb
      go_wp2_with fail
      refine (l1In_no _ _ _ _ HC.out).mono ?_
      rintro e w2 ⟨rfl, rfl⟩
      go_wp2_with fail
      go_ret
      exact ⟨ret_i HF.out.symm, hb⟩
  · have hg := Sw.gvB_yes hG
    have HF := Lib.hid (Sw.vPart_yes hG hk)
    obtain ⟨ad, rfl, hrg⟩ := RdG.of hG hr
    have hn := hG.le
    have hkl : (k : Int) ≤ ((Sw.toI G).length : Int) - 1 := by rw [Sw.toI_len]; omega
    have hpp : (2 : Int) ^ k ≤ 512 := pow9 (by omega)
    have hpp1 := pow1 k
    go_enter Try.func11, Try.ntmps11
    go_wp2_with fail
    refine (specGraphValid (Sw.toI G) (some ad) c hl _ hr1).mono ?_
    rintro e w1 ⟨rfl, hb⟩
    obtain ⟨hb, hc, hz⟩ := box_after hb
    go_wp2_with fail
    refine (l1In_yes _ _ _ _ (by omega) hkl).mono ?_
    rintro e w2 ⟨rfl, rfl⟩
    go_wp2_with fail
    go_loopw [5] (fun x wr => ∃ s : Nat, x = .int .i64 s ∧ s < 2 ^ G.length ∧ Sw.part G s = Sw.pt G k ∧ Below w.heap.size w wr ∧ wr.cell? ⟨w.heap.size, 0, none⟩ = some (.slice (some ad) (Sw.toI G).length c) ∧ w.heap.size < wr.heap.size) (fun x _ => (1024 - intOf x).toNat)
    case atStart => exact ⟨2 ^ k, val_i (by simp), Sw.two_lt hk, rfl, hb, hc, hz⟩
    case round =>
      obtain ⟨s, rfl, hlt, hpt, hb, hc, hz⟩ := hrel
      have HP := Lib.hid hpt
      clear hpt hpp hpp1
      have hs40 := lt40 hn hlt
      have hbs := Lib.hid (Sw.vBes_yes hG hlt)
      go_wp2_with fail
      refine (specBesideSet (Sw.toI G) (some ad) c s hl _ (hr.at_ hb)).mono ?_
      rw [hbs.out]
      rintro e w1 ⟨rfl, hb1⟩
      obtain ⟨hb, hc, hz⟩ := box_next hb hc hz hb1
      go_wp2_with fail
      refine (l1Either s (Sw.bes G s) hs40 (lt40 hn (Sw.bes_lt hG s)) _).mono ?_
      rintro e w2 ⟨rfl, rfl⟩
      have hge := Sw.step_ge G s
      have hsl := Sw.step_lt hG hlt
      have hps := Sw.part_step hG hlt
      have h512 := Sw.pow_le9 hn
      by_cases hd : s ||| Sw.bes G s = s
      · have hpd := Sw.part_done (G := G) (s := s) hd
        have HD : Hid (Sw.pt G k = s) := by rw [← HP.out]; exact hpd
        rw [hd]
        clear hd hge hsl hps hpd
        go_wp2_with fail
        go_ret
        exact ⟨ret_i (by rw [HF.out, HD.out]), hb⟩
      · have hne : (((s ||| Sw.bes G s : Nat) : Int) == (s : Int)) = false := by
          rw [beq_eq_false_iff_ne]; intro e; exact hd (by exact_mod_cast e)
        have HS := Lib.hid hps
        have hgt : s < s ||| Sw.bes G s := Nat.lt_of_le_of_ne hge fun e => hd e.symm
        have hm : (1024 - intOf (.int .i64 ((s ||| Sw.bes G s : Nat) : Int))).toNat < (1024 - intOf (.int .i64 (s : Int))).toNat := by
          unfold Sw.step at hsl
          simp only [intOf]; omega
        have HM := Lib.hid hm
        clear hps hd hge hm hgt
        go_wp2_with fail
        go_roundw
        case rel => exact ⟨_, rfl, hsl, HS.out.trans HP.out, hb, hc, hz⟩
        case measure => exact HM.out
theorem implAlone (l : List Int) (A : Option Addr) (c : Nat) (s : Int) (hl : l.length ≤ 1099511627776) (w : World) (hr : RdI w w.heap.size A l) :
    Calls Try.prog 21 #[.agg #[.slice A l.length c], .int .i64 s] w fun e w' => e = .returned (.bool (Sw.vAlone l s)) ∧ Below w.heap.size w w' := by
  have hr1 := hr.at_ (below1 (.cells #[.slice A l.length c] 25))
  rcases Sw.svB_cases l s with hv | ⟨G, S, rfl, hG, rfl, hS⟩
  · have HF := Lib.hid (Sw.vAlone_no hv)
    go_enter Try.func21, Try.ntmps21
    go_wp2_with fail
    refine (implSetValid l A c s hl _ hr1).mono ?_
    rintro e w1 ⟨rfl, hb⟩
    obtain ⟨hb, hc, hz⟩ := box_after hb
    go_wp2_with fail
    go_ret
    exact ⟨ret_b HF.out.symm, hb⟩
  · have hv := Sw.svB_yes hG hS
    have HF := Lib.hid (Sw.vAlone_yes hG hS)
    obtain ⟨ad, rfl, hrg⟩ := RdG.of hG hr
    have hS40 := lt40 hG.le hS
    have hand := i64_and (Sw.bes G S) S (lt63 hG.le (Sw.bes_lt hG S)) (lt63 hG.le hS)
    go_enter Try.func21, Try.ntmps21
    go_wp2_with fail
    refine (implSetValid (Sw.toI G) (some ad) c S hl _ hr1).mono ?_
    rintro e w1 ⟨rfl, hb⟩
    obtain ⟨hb, hc, hz⟩ := box_after hb
    rw [Sw.toI_len] at hc
    go_wp2_with fail
    refine (besideUnion G hG ad c S hS40 _ (hrg.at_ hb)).mono ?_
    rintro e w2 ⟨rfl, hb2⟩
    obtain ⟨hb, hc, hz⟩ := box_next hb hc hz hb2
    go_wp2_with fail
    go_ret
    exact ⟨ret_b (by rw [HF.out]; exact beq_nat_zero _), hb⟩
theorem specAlone (l : List Int) (A : Option Addr) (c : Nat) (s : Int) (hl : l.length ≤ 1099511627776) (w : World) (hr : RdI w w.heap.size A l) :
    Calls Try.prog 22 #[.agg #[.slice A l.length c], .int .i64 s] w fun e w' => e = .returned (.bool (Sw.vAlone l s)) ∧ Below w.heap.size w w' := by
  have hr1 := hr.at_ (below1 (.cells #[.slice A l.length c] 25))
  rcases Sw.svB_cases l s with hv | ⟨G, S, rfl, hG, rfl, hS⟩
  · have HF := Lib.hid (Sw.vAlone_no hv)
    go_enter Try.func22, Try.ntmps22
    go_wp2_with fail
    refine (specSetValid l A c s hl _ hr1).mono ?_
    rintro e w1 ⟨rfl, hb⟩
    obtain ⟨hb, hc, hz⟩ := box_after hb
    go_wp2_with fail
    go_ret
    exact ⟨ret_b HF.out.symm, hb⟩
  · have hv := Sw.svB_yes hG hS
    have HF := Lib.hid (Sw.vAlone_yes hG hS)
    have HB := Lib.hid (Sw.vBes_yes hG hS)
    have hS40 := lt40 hG.le hS
    go_enter Try.func22, Try.ntmps22
    go_wp2_with fail
    refine (specSetValid (Sw.toI G) A c S hl _ hr1).mono ?_
    rintro e w1 ⟨rfl, hb⟩
    obtain ⟨hb, hc, hz⟩ := box_after hb
    go_wp2_with fail
    refine (specBesideSet (Sw.toI G) A c S hl _ (hr.at_ hb)).mono ?_
    rw [HB.out]
    rintro e w2 ⟨rfl, hb2⟩
    obtain ⟨hb, hc, hz⟩ := box_next hb hc hz hb2
    go_wp2_with fail
    refine (l1Both S (Sw.bes G S) hS40 (lt40 hG.le (Sw.bes_lt hG S)) _).mono ?_
    rintro e w3 ⟨rfl, rfl⟩
    go_wp2_with fail
    go_ret
    exact ⟨ret_b (by rw [HF.out, Nat.and_comm]; exact beq_nat_zero _), hb⟩
theorem specPartG (G : List Nat) (hG : Sw.GVN G) (ad : Addr) (c k : Nat) (hk : k < G.length) (w : World) (hr : RdG w w.heap.size ad G) :
    Calls Try.prog 11 #[.agg #[.slice (some ad) G.length c], .int .i64 k] w fun e w' => e = .returned (.int .i64 (Sw.pt G k : Nat)) ∧ Below w.heap.size w w' := by
  have h := specPartOf (Sw.toI G) (some ad) c k (by rw [Sw.toI_len]; have := hG.le; omega) w hr.toI
  rw [Sw.toI_len, Sw.vPart_yes hG hk] at h; exact h
end Go.Proofs.Ytlfigdpgdkbknaa

