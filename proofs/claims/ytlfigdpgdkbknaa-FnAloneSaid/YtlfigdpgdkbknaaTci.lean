/- TwoColours of the program by its contract. No conditions. -/
import Derived.Test.YtlfigdpgdkbknaaTc
namespace Go.Proofs.Ytlfigdpgdkbknaa
open Go.RowKit
/-- what holds at each jump back of the growing of two colours -/
def TCJ (G : List Nat) (ad : Addr) (c K : Nat) (w : World) (a' : Act) (w' : World) : Prop :=
  ∃ (H T : Nat) (u7 u8 u18 u19 u20 u21 u22 u23 u24 u25 u26 u27 u28 u29 u30 u31 u32 u33 u34 u35 u36 u37 u38 u39 u40 u41 u42 u43 u44 u45 u46 u47 u48 u49 : Value), a' = { tmps := #[.agg #[.slice (some ad) G.length c], .pointer (some ⟨w.heap.size, 0, none⟩), .int .i64 0, .bool false, .int .i64 H, .int .i64 T, .int .i64 K, u7, u8, .agg #[.slice (some ad) G.length c], .bool true, .bool false, .pointer (some ⟨w.heap.size, 0, none⟩), .slice (some ad) G.length c, .int .i64 G.length, .int .i64 K, .bool true, .int .i64 K, u18, u19, u20, u21, u22, u23, u24, u25, u26, u27, u28, u29, u30, u31, u32, u33, u34, u35, u36, u37, u38, u39, u40, u41, u42, u43, u44, u45, u46, u47, u48, u49, undef, undef, undef, undef, undef], defers := [] } ∧
    Sw.TIn G K H T ∧ Below w.heap.size w w' ∧ w'.cell? ⟨w.heap.size, 0, none⟩ = some (.slice (some ad) G.length c) ∧ w.heap.size < w'.heap.size
/-- one pass: what is reckoned in it -/
theorem tcj_pass {G : List Nat} {K H T : Nat} (hG : Sw.GVN G) (q : Sw.TIn G K H T) : ∃ B1 MT B2 MH : Nat, B1 = Sw.bes G H ∧ B2 = Sw.bes G MT ∧
    bits .or .i64 (T : Int) (B1 : Int) = (MT : Nat) ∧ bits .or .i64 (H : Int) (B2 : Int) = (MH : Nat) ∧ Sw.TIn G K MH MT ∧
    (¬ (MT = T ∧ MH = H) → 2048 - (MH + MT) < 2048 - (H + T)) ∧ (MT = T → MH = H → Sw.TInv G (K + 1) H T) ∧ H < 1099511627776 ∧ MT < 1099511627776 := by
  have hn := hG.le
  have q2 := q.grow hG
  refine ⟨Sw.bes G H, T ||| Sw.bes G H, Sw.bes G (T ||| Sw.bes G H), H ||| Sw.bes G (T ||| Sw.bes G H), rfl, rfl, i64_or _ _ (lt63 hn q.tlt) (lt63 hn (Sw.bes_lt hG _)), i64_or _ _ (lt63 hn q.hlt) (lt63 hn (Sw.bes_lt hG _)), q2, ?_, ?_, lt40 hn q.hlt, lt40 hn q2.tlt⟩
  · intro h
    have h1 := (Sw.Sub.or_l T (Sw.bes G H)).le
    have h2 := (Sw.Sub.or_l H (Sw.bes G (T ||| Sw.bes G H))).le
    have p1 := Sw.pow_le9 hn
    have h3 := q2.hlt
    have h4 := q2.tlt
    rcases Nat.lt_or_ge (H + T) ((H ||| Sw.bes G (T ||| Sw.bes G H)) + (T ||| Sw.bes G H)) with r | r
    · omega
    · exact absurd ⟨by omega, by omega⟩ h
  · intro e1 e2
    rw [e1] at e2
    exact q.done e1 e2
set_option maxRecDepth 100000 in
set_option maxHeartbeats 4000000 in
theorem implTwoColours (l : List Int) (A : Option Addr) (c : Nat) (hl : l.length ≤ 1099511627776) (w : World) (hr : RdI w w.heap.size A l) :
    Calls Try.prog 31 #[.agg #[.slice A l.length c]] w fun e w' => e = .returned (.tuple #[.int .i64 (Sw.vTcI l), .bool (Sw.vTcB l)]) ∧ Below w.heap.size w w' := by
  rcases Sw.gvB_cases l with hg | ⟨G, rfl, hG⟩
  · have HF := Lib.hid (Sw.vTc_no hg)
    go_enter Try.func31, Try.ntmps31
    go_wp2_with fail
    refine (implGraphValid_no l A c hl hg _ (hr.at_ (below1 _))).mono ?_
    rintro e w1 ⟨rfl, hb⟩
    obtain ⟨hb, hc, hz⟩ := box_after hb
    go_wp2_with fail
    go_ret2
    exact ⟨ret_ib HF.out.1.symm HF.out.2.symm, hb⟩
  · obtain ⟨ad, rfl, hrg⟩ := RdG.of hG hr
    rw [Sw.toI_len]
    have hn := hG.le
    have HG := Lib.hid hG
    clear hG
    go_enter Try.func31, Try.ntmps31
    go_wp2_with fail
    refine (implGV G HG.out ad c _ (hrg.at_ (below1 _))).mono ?_
    rintro e w1 ⟨rfl, hb⟩
    obtain ⟨hb, hc, hz⟩ := box_after hb
    go_wp2_with fail
    go_loopw [4, 5, 15] (fun h t k wr => ∃ K H T : Nat, K ≤ G.length ∧ k = .int .i64 K ∧ h = .int .i64 H ∧ t = .int .i64 T ∧ Sw.TInv G K H T ∧ Below w.heap.size w wr ∧ wr.cell? ⟨w.heap.size, 0, none⟩ = some (.slice (some ad) G.length c) ∧ w.heap.size < wr.heap.size) (fun _ _ k _ => (G.length - intOf k).toNat)
    case atStart => exact ⟨0, 0, 0, by omega, rfl, rfl, rfl, Sw.TInv.zero G, hb, hc, hz⟩
    case round =>
      obtain ⟨K, H0, T, hK, rfl, rfl, rfl, hI, hb, hc, hz⟩ := hrel
      have HI0 := Lib.hid hI
      have hh := lt63 hn hI.hlt
      have ht := lt63 hn hI.tlt
      have hht := lt40 hn (Sw.or_lt hI.hlt hI.tlt)
      have hor := i64_or H0 T hh ht
      clear hI
      by_cases hlt : K < G.length
      · have hdK : decide ((K : Int) < (G.length : Int)) = true := by rw [decide_eq_true_eq]; omega
        go_wp2_with fail
        refine wp_scope_jumps 0 (TCJ G ad c K w) (fun a' _ => (2048 - (intOf (a'.tmps.getD 4 undef) + intOf (a'.tmps.getD 5 undef))).toNat) rfl ?_ ?_
        · rcases shr_bit (H0 ||| T) K hht with ⟨h1, hbt⟩ | ⟨h1, hbt⟩
          · have HS := Lib.hid (HI0.out.skip h1)
            clear h1
            go_wp2_with fail
            simp only [Exit.jump]
            go_wp2_with fail
            go_roundw
            case rel => exact ⟨K + 1, H0, T, by omega, by go_num, rfl, rfl, HS.out, hb, hc, hz⟩
            case measure => simp [intOf]; omega
          · have hpk : (2 : Int) ^ K ≤ 512 := pow9 (by omega)
            have hpk1 := pow1 K
            have hwk : IntKind.i64.wrap ((2 : Int) ^ K) = 2 ^ K := IntWalk.i64_in _ (by omega)
            have hI := HI0.out.start HG.out h1 hlt
            have hor2 : bits .or .i64 (H0 : Int) ((2 : Int) ^ K) = ((H0 ||| 2 ^ K : Nat) : Int) := by
              rw [pow_nat]; exact i64_or H0 (2 ^ K) hh (lt63 hn (Sw.two_lt hlt))
            obtain ⟨H, hH'⟩ : ∃ x, x = H0 ||| 2 ^ K := ⟨_, rfl⟩
            rw [← hH'] at hor2 hI
            clear h1 hH'
            have HI := Lib.hid hI
            clear hI
            go_wp2_with fail
            go_step3
            clear hor hor2 hbt hwk
            obtain ⟨B1, MT, B2, MH, hB1, hB2, hor1, hor2, hgr, hless, hdone, hh40, hmt40⟩ := tcj_pass HG.out HI.out
            have hC1 := fun W => besideUnion G HG.out ad c H hh40 W
            have hC2 := fun W => besideUnion G HG.out ad c MT hmt40 W
            rw [← hB1] at hC1
            rw [← hB2] at hC2
            have HGR := Lib.hid hgr
            have HL := Lib.hid hless
            have HD := Lib.hid hdone
            clear hB1 hB2 hgr hless hdone
            go_wp2_with fail
            refine (hC1 _ (hrg.at_ hb)).mono ?_
            rintro e w2 ⟨rfl, hb2⟩
            obtain ⟨hb, hc, hz⟩ := box_next hb hc hz hb2
            go_wp2_with fail
            refine (hC2 _ (hrg.at_ hb)).mono ?_
            rintro e w3 ⟨rfl, hb3⟩
            obtain ⟨hb, hc, hz⟩ := box_next hb hc hz hb3
            by_cases d1 : MT = T
            · by_cases d2 : MH = H
              · have HDN := Lib.hid (HD.out d1 d2)
                have hne1 : (((MT : Nat) : Int) != ((T : Nat) : Int)) = false := by rw [bne_nat]; exact decide_eq_false (fun h => h d1)
                have hne2 : (((MH : Nat) : Int) != ((H : Nat) : Int)) = false := by rw [bne_nat]; exact decide_eq_false (fun h => h d2)
                clear d1 d2
                go_wp2_with fail
                simp only [Exit.jump]
                go_wp2_with fail
                go_roundw
                case rel => exact ⟨K + 1, H, T, by omega, by go_num, rfl, rfl, HDN.out, hb, hc, hz⟩
                case measure => simp [intOf]; omega
              · have hl := HL.out (fun h => d2 h.2)
                clear hl
                have hne1 : (((MT : Nat) : Int) != ((T : Nat) : Int)) = false := by rw [bne_nat]; exact decide_eq_false (fun h => h d1)
                have hne2 : (((MH : Nat) : Int) != ((H : Nat) : Int)) = true := by rw [bne_nat]; exact decide_eq_true d2
                clear d1 d2
                go_wp2_with fail
                go_step3
                exact ⟨rfl, _, _, _, _, _, _, _, _, _, _, _, _, _, _, _, _, _, _, _, _, _, _, _, _, _, _, _, _, _, _, _, _, _, _, _, _, rfl, HGR.out, hb, hc, hz⟩
            · have hl := HL.out (fun h => d1 h.1)
              clear hl
              have hne1 : (((MT : Nat) : Int) != ((T : Nat) : Int)) = true := by rw [bne_nat]; exact decide_eq_true d1
              clear d1
              go_wp2_with fail
              go_step3
              exact ⟨rfl, _, _, _, _, _, _, _, _, _, _, _, _, _, _, _, _, _, _, _, _, _, _, _, _, _, _, _, _, _, _, _, _, _, _, _, _, rfl, HGR.out, hb, hc, hz⟩
        · clear hb hc hz hor hht hh ht
          rintro a' w' ⟨H, T, u7, u8, u18, u19, u20, u21, u22, u23, u24, u25, u26, u27, u28, u29, u30, u31, u32, u33, u34, u35, u36, u37, u38, u39, u40, u41, u42, u43, u44, u45, u46, u47, u48, u49, rfl, hI, hb, hc, hz⟩
          have HI := Lib.hid hI
          clear hI
          obtain ⟨B1, MT, B2, MH, hB1, hB2, hor1, hor2, hgr, hless, hdone, hh40, hmt40⟩ := tcj_pass HG.out HI.out
          have hC1 := fun W => besideUnion G HG.out ad c H hh40 W
          have hC2 := fun W => besideUnion G HG.out ad c MT hmt40 W
          rw [← hB1] at hC1
          rw [← hB2] at hC2
          have HGR := Lib.hid hgr
          have HL := Lib.hid hless
          have HD := Lib.hid hdone
          clear hB1 hB2 hgr hless hdone
          go_wp2_with fail
          refine (hC1 _ (hrg.at_ hb)).mono ?_
          rintro e w2 ⟨rfl, hb2⟩
          obtain ⟨hb, hc, hz⟩ := box_next hb hc hz hb2
          go_wp2_with fail
          refine (hC2 _ (hrg.at_ hb)).mono ?_
          rintro e w3 ⟨rfl, hb3⟩
          obtain ⟨hb, hc, hz⟩ := box_next hb hc hz hb3
          by_cases d1 : MT = T
          · by_cases d2 : MH = H
            · have HDN := Lib.hid (HD.out d1 d2)
              have hne1 : (((MT : Nat) : Int) != ((T : Nat) : Int)) = false := by rw [bne_nat]; exact decide_eq_false (fun h => h d1)
              have hne2 : (((MH : Nat) : Int) != ((H : Nat) : Int)) = false := by rw [bne_nat]; exact decide_eq_false (fun h => h d2)
              clear d1 d2
              go_wp2_with fail
              simp only [Exit.jump]
              go_wp2_with fail
              go_roundw
              case rel => exact ⟨K + 1, H, T, by omega, by go_num, rfl, rfl, HDN.out, hb, hc, hz⟩
              case measure => simp [intOf]; omega
            · have hl := HL.out (fun h => d2 h.2)
              have hm : (2048 - (intOf (.int .i64 (MH : Int)) + intOf (.int .i64 (MT : Int)))).toNat < (2048 - (intOf (.int .i64 (H : Int)) + intOf (.int .i64 (T : Int)))).toNat := by simp only [intOf]; omega
              have HM := Lib.hid hm
              clear hm
              clear hl
              have hne1 : (((MT : Nat) : Int) != ((T : Nat) : Int)) = false := by rw [bne_nat]; exact decide_eq_false (fun h => h d1)
              have hne2 : (((MH : Nat) : Int) != ((H : Nat) : Int)) = true := by rw [bne_nat]; exact decide_eq_true d2
              clear d1 d2
              go_wp2_with fail
              go_step3
              exact ⟨rfl, ⟨_, _, _, _, _, _, _, _, _, _, _, _, _, _, _, _, _, _, _, _, _, _, _, _, _, _, _, _, _, _, _, _, _, _, _, _, rfl, HGR.out, hb, hc, hz⟩, HM.out⟩
          · have hl := HL.out (fun h => d1 h.1)
            have hm : (2048 - (intOf (.int .i64 (MH : Int)) + intOf (.int .i64 (MT : Int)))).toNat < (2048 - (intOf (.int .i64 (H : Int)) + intOf (.int .i64 (T : Int)))).toNat := by simp only [intOf]; omega
            have HM := Lib.hid hm
            clear hm
            clear hl
            have hne1 : (((MT : Nat) : Int) != ((T : Nat) : Int)) = true := by rw [bne_nat]; exact decide_eq_true d1
            clear d1
            go_wp2_with fail
            go_step3
            exact ⟨rfl, ⟨_, _, _, _, _, _, _, _, _, _, _, _, _, _, _, _, _, _, _, _, _, _, _, _, _, _, _, _, _, _, _, _, _, _, _, _, rfl, HGR.out, hb, hc, hz⟩, HM.out⟩
      · have : K = G.length := by omega
        subst this
        have hand := i64_and H0 T hh ht
        by_cases h0 : H0 &&& T = 0
        · have HF := Lib.hid (Sw.vTc_some HG.out (HI0.out.last_yes HG.out h0))
          rw [h0] at hand
          clear h0
          go_wp2_with fail
          go_ret2
          exact ⟨ret_ib HF.out.1.symm HF.out.2.symm, hb⟩
        · have HF := Lib.hid (Sw.vTc_none HG.out (HI0.out.last_no h0))
          have hne : (((H0 &&& T : Nat) : Int) != 0) = true := by
            rw [bne_iff_ne]; intro e; exact h0 (by exact_mod_cast e)
          clear h0
          go_wp2_with fail
          go_ret2
          exact ⟨ret_ib HF.out.1.symm HF.out.2.symm, hb⟩
end Go.Proofs.Ytlfigdpgdkbknaa

