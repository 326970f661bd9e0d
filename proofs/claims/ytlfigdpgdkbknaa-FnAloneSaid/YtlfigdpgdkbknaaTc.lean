/- TwoColours of the reference by its contract. No conditions. -/
import Derived.Test.YtlfigdpgdkbknaaPart
namespace Go.Proofs.Ytlfigdpgdkbknaa
open Go.RowKit
theorem ret_ib {a b : Int} {p q : Bool} (h : a = b) (h2 : p = q) : Ending.returned (.tuple #[.int .i64 a, .bool p]) = .returned (.tuple #[.int .i64 b, .bool q]) := by rw [h, h2]
theorem specBesG (G : List Nat) (hG : Sw.GVN G) (ad : Addr) (c S : Nat) (hS : S < 2 ^ G.length) (w : World) (hr : RdG w w.heap.size ad G) :
    Calls Try.prog 41 #[.agg #[.slice (some ad) G.length c], .int .i64 S] w fun e w' => e = .returned (.int .i64 (Sw.bes G S : Nat)) ∧ Below w.heap.size w w' := by
  have h := specBesideSet (Sw.toI G) (some ad) c (S : Int) (by rw [Sw.toI_len]; have := hG.le; omega) w hr.toI
  rw [Sw.vBes_yes hG hS, Sw.toI_len] at h
  exact h
theorem specAloneT (G : List Nat) (hG : Sw.GVN G) (ad : Addr) (c S : Nat) (hS : S < 2 ^ G.length) (w : World) (hr : RdG w w.heap.size ad G) :
    Calls Try.prog 22 #[.agg #[.slice (some ad) G.length c], .int .i64 S] w fun e w' => e = .returned (.bool (decide (Sw.bes G S &&& S = 0))) ∧ Below w.heap.size w w' := by
  have h := specAlone (Sw.toI G) (some ad) c (S : Int) (by rw [Sw.toI_len]; have := hG.le; omega) w hr.toI
  rw [Sw.vAlone_yes hG hS, Sw.toI_len] at h
  exact h
set_option maxRecDepth 100000 in
set_option maxHeartbeats 4000000 in
theorem specTwoColours (l : List Int) (A : Option Addr) (c : Nat) (hl : l.length ≤ 1099511627776) (w : World) (hr : RdI w w.heap.size A l) :
    Calls Try.prog 33 #[.agg #[.slice A l.length c]] w fun e w' => e = .returned (.tuple #[.int .i64 (Sw.vTcI l), .bool (Sw.vTcB l)]) ∧ Below w.heap.size w w' := by
  rcases Sw.gvB_cases l with hg | ⟨G, rfl, hG⟩
  · have HF := Lib.hid (Sw.vTc_no hg)
    go_enter Try.func33, Try.ntmps33
    go_wp2_with fail
    refine (specGraphValid_no l A c hl hg _ (hr.at_ (below1 _))).mono ?_
    rintro e w1 ⟨rfl, hb⟩
    obtain ⟨hb, hc, hz⟩ := box_after hb
    go_wp2_with fail
    go_ret2
    exact ⟨ret_ib HF.out.1.symm HF.out.2.symm, hb⟩
  · obtain ⟨ad, rfl, hrg⟩ := RdG.of hG hr
    rw [Sw.toI_len]
    have hn := hG.le
    have HG := Lib.hid hG
    clear hG
    go_enter Try.func33, Try.ntmps33
    go_wp2_with fail
    refine (specGV G HG.out ad c _ (hrg.at_ (below1 _))).mono ?_
    rintro e w1 ⟨rfl, hb⟩
    obtain ⟨hb, hc, hz⟩ := box_after hb
    go_wp2_with fail
    go_loopw [4, 5, 6] (fun st se k wr => ∃ K SE ST : Nat, K ≤ G.length ∧ k = .int .i64 K ∧ se = .int .i64 SE ∧ st = .int .i64 ST ∧ Sw.SInv G K SE ST ∧ Below w.heap.size w wr ∧ wr.cell? ⟨w.heap.size, 0, none⟩ = some (.slice (some ad) G.length c) ∧ w.heap.size < wr.heap.size) (fun _ _ k _ => (G.length - intOf k).toNat)
    case atStart => exact ⟨0, 0, 0, by omega, rfl, rfl, rfl, Sw.SInv.zero G, hb, hc, hz⟩
    case round =>
      obtain ⟨K, SE, ST, hK, rfl, rfl, rfl, hI, hb, hc, hz⟩ := hrel
      have HI := Lib.hid hI
      have hse := lt40 hn hI.slt
      have hst := lt40 hn hI.clt
      clear hI
      by_cases hlt : K < G.length
      · have hB := l1Bit SE K hse (by omega) wr
        have hdK : decide ((K : Int) < (G.length : Int)) = true := by rw [decide_eq_true_eq]; omega
        by_cases hk : SE.testBit K = true
        · have HS := Lib.hid (HI.out.skip hk)
          rw [show Sw.bit SE K = 1 by rw [Sw.bit_eq, if_pos hk]] at hB
          clear hk
          go_wp2_with fail
          refine hB.mono ?_
          rintro e w2 ⟨rfl, rfl⟩
          go_wp2_with fail
          go_roundw
          case rel => exact ⟨K + 1, SE, ST, by omega, by go_num, rfl, rfl, HS.out, hb, hc, hz⟩
          case measure => simp [intOf]; omega
        · have HS := Lib.hid (HI.out.start (by simpa using hk) hlt)
          rw [show Sw.bit SE K = 0 by rw [Sw.bit_eq, if_neg hk]] at hB
          clear hk
          have hpk : (2 : Int) ^ K ≤ 512 := pow9 (by omega)
          have hpk1 := pow1 K
          have hwk : IntKind.i64.wrap ((2 : Int) ^ K) = 2 ^ K := IntWalk.i64_in _ (by omega)
          go_wp2_with fail
          refine hB.mono ?_
          rintro e w2 ⟨rfl, rfl⟩
          clear hB
          go_wp2_with fail
          go_loopw [4, 5, 7, 8] (fun st se nw co wr => ∃ ST SE NW CO : Nat, st = .int .i64 ST ∧ se = .int .i64 SE ∧ nw = .int .i64 NW ∧ co = .int .i64 CO ∧ Sw.SIn G K SE ST NW CO ∧ Below w.heap.size w wr ∧ wr.cell? ⟨w.heap.size, 0, none⟩ = some (.slice (some ad) G.length c) ∧ w.heap.size < wr.heap.size) (fun _ se _ _ _ => (1024 - intOf se).toNat)
          case atStart => exact ⟨ST, SE, 2 ^ K, 0, rfl, rfl, by rw [← pow_nat], rfl, HS.out, hb, hc, hz⟩
          case round =>
            obtain ⟨ST', SE', NW, CO, rfl, rfl, rfl, rfl, hI, hb, hc, hz⟩ := hrel
            have HI := Lib.hid hI
            have hse' := lt40 hn hI.slt
            have hst' := lt40 hn hI.clt
            have hnw := hI.nlt
            have hnw4 := lt40 hn hI.nlt
            have hco := hI.c01
            clear hI
            by_cases h0 : NW = 0
            · subst h0
              have HD := Lib.hid HI.out.done
              go_wp2_with fail
              go_roundw
              case rel => exact ⟨K + 1, SE', ST', by omega, by go_num, rfl, rfl, HD.out, hb, hc, hz⟩
              case measure => simp [intOf]; omega
            · have HN := Lib.hid (HI.out.next HG.out)
              have hmore := HI.out.more h0
              have h512 := Sw.pow_le9 hn
              have hslt := HN.out.slt
              have hE := l1Either SE' NW hse' hnw4 wr
              obtain ⟨SE2, hSE2⟩ : ∃ x, x = SE' ||| NW := ⟨_, rfl⟩
              rw [← hSE2] at hE hslt hmore
              rw [← hSE2] at HN
              have hse2 := lt40 hn hslt
              have hm : (1024 - intOf (.int .i64 (SE2 : Int))).toNat < (1024 - intOf (.int .i64 (SE' : Int))).toNat := by simp only [intOf]; omega
              have HM := Lib.hid hm
              clear hm hmore hSE2
              have hpos : (0 : Int) < NW := by omega
              have hBS := specBesG G HG.out ad c NW hnw wr (hrg.at_ hb)
              obtain ⟨B, hB⟩ : ∃ x, x = Sw.bes G NW := ⟨_, rfl⟩
              have hblt := Sw.bes_lt HG.out NW
              rw [← hB] at hBS hblt
              rw [← hB] at HN
              clear hB
              have hb40 := lt40 hn hblt
              have hBO := fun W => l1Both B SE2 hb40 hse2 W
              have hand := Sw.and_le_l B SE2
              rcases hco with rfl | rfl
              · rw [if_neg (by decide)] at HN
                go_wp2_with fail
                refine hE.mono ?_
                rintro e w2 ⟨rfl, rfl⟩
                go_wp2_with fail
                refine hBS.mono ?_
                rintro e w3 ⟨rfl, hb3⟩
                obtain ⟨hb, hc, hz⟩ := box_next hb hc hz hb3
                go_wp2_with fail
                refine (hBO _).mono ?_
                rintro e w4 ⟨rfl, rfl⟩
                go_wp2_with fail
                go_roundw
                case rel => exact ⟨ST', SE2, Sw.without B SE2, 1, rfl, rfl, val_i (by unfold Sw.without; omega), rfl, HN.out, hb, hc, hz⟩
                case measure => exact HM.out
              · rw [if_pos rfl] at HN
                have hE2 := l1Either ST' NW hst' hnw4 wr
                go_wp2_with fail
                refine hE.mono ?_
                rintro e w2 ⟨rfl, rfl⟩
                go_wp2_with fail
                refine hE2.mono ?_
                rintro e w2 ⟨rfl, rfl⟩
                go_wp2_with fail
                refine hBS.mono ?_
                rintro e w3 ⟨rfl, hb3⟩
                obtain ⟨hb, hc, hz⟩ := box_next hb hc hz hb3
                go_wp2_with fail
                refine (hBO _).mono ?_
                rintro e w4 ⟨rfl, rfl⟩
                go_wp2_with fail
                go_roundw
                case rel => exact ⟨ST' ||| NW, SE2, Sw.without B SE2, 0, rfl, rfl, val_i (by unfold Sw.without; omega), rfl, HN.out, hb, hc, hz⟩
                case measure => exact HM.out
      · have : K = G.length := by omega
        subst this
        have hL := HI.out.last HG.out
        have hrl : Sw.rest G ST < 2 ^ G.length := by unfold Sw.rest; have := Nat.two_pow_pos G.length; omega
        have hpn : (2 : Int) ^ G.length ≤ 512 := pow9 hn
        have hpn1 := pow1 G.length
        have hstl := HI.out.clt
        have hw1 : IntKind.i64.wrap ((2 : Int) ^ G.length) = 2 ^ G.length := IntWalk.i64_in _ (by omega)
        have hw2 : IntKind.i64.wrap ((2 : Int) ^ G.length - 1) = 2 ^ G.length - 1 := IntWalk.i64_in _ (by omega)
        have hpz : (2 : Int) ^ G.length = ((2 ^ G.length : Nat) : Int) := pow_nat _
        have hw3 : IntKind.i64.wrap ((2 : Int) ^ G.length - 1 - ST) = ((Sw.rest G ST : Nat) : Int) := by
          rw [IntWalk.i64_in _ (by omega), hpz]; unfold Sw.rest; omega
        have Hpz := Lib.hid hpz
        clear hpz
        have hA1 := fun W => specAloneT G HG.out ad c ST hstl W
        have hA2 := fun W => specAloneT G HG.out ad c (Sw.rest G ST) hrl W
        obtain ⟨b1, hb1e⟩ : ∃ b1 : Prop, b1 = (Sw.bes G ST &&& ST = 0) := ⟨_, rfl⟩
        obtain ⟨RS, hRS⟩ : ∃ x, x = Sw.rest G ST := ⟨_, rfl⟩
        rw [← hRS] at hA2 hw3 hL hrl
        clear hb1e b1 hRS
        have hrw := hrg.at_ hb
        by_cases a1 : Sw.bes G ST &&& ST = 0
        · rw [decide_eq_true a1] at hA1
          by_cases a2 : Sw.bes G RS &&& RS = 0
          · rw [decide_eq_true a2] at hA2
            have HF := Lib.hid (Sw.vTc_some HG.out (hL.1 ⟨a1, a2⟩))
            clear a1 a2 hL
            go_wp2_with fail
            refine wp_region_any (by kernel_rfl) ?_
            change wpAny _ _ _ _ _ _ _ (World.drew _)
            refine wpAny_take (i := 1) (v := .int .i64 ST) rfl (by kernel_rfl) (by kernel_rfl) (by kernel_rfl) (fun _ _ _ h => h) (.inl ⟨by kernel_rfl, fun w => by first | rfl | go_simp⟩) ?_
            refine wpAny_ready (rs := [0]) (by kernel_rfl) (by simp) ?_
            refine AllReady.cons rfl (fun K hK => ?_) AllReady.nil
            go_simp
            refine hK _ _ ?_
            clear hK K
            refine wpAny_ready (rs := [2]) (by kernel_rfl) (by simp) ?_
            refine AllReady.cons rfl (fun K hK => ?_) AllReady.nil
            go_simp
            go_wp2_with (go_at_call 22; refine (hA1 _ (by exact hrw)).mono ?_; rintro e w2 ⟨rfl, hb1⟩; obtain ⟨hb1', hS1, hz1⟩ := box_next (w2 := w2) hb hc hz (undrew (by exact hb1)))
            refine wpAny_take (i := 3) (v := .bool false) rfl (by kernel_rfl) (by kernel_rfl) (by kernel_rfl) (fun _ _ _ h => h) (.inl ⟨by kernel_rfl, fun w => by first | rfl | go_simp⟩) ?_
            refine wpAny_take (i := 4) (v := .bool false) rfl (by kernel_rfl) (by kernel_rfl) (by kernel_rfl) (fun _ _ _ h => h) (.inl ⟨by kernel_rfl, fun w => by first | rfl | go_simp⟩) ?_
            refine wpAny_take (i := 6) (v := .pointer (some ⟨w.heap.size, 0, none⟩)) rfl (by kernel_rfl) (by kernel_rfl) (by kernel_rfl) (fun _ _ _ h => h) (.inl ⟨by kernel_rfl, fun w => by first | rfl | go_simp⟩) ?_
            refine wpAny_take (i := 11) (v := .int .i64 ST) rfl (by kernel_rfl) (by kernel_rfl) (by kernel_rfl) (fun _ _ _ h => h) (.inl ⟨by kernel_rfl, fun w => by first | rfl | go_simp⟩) ?_
            refine wpAny_ready (rs := [5, 7]) (by kernel_rfl) (by simp) ?_
            refine AllReady.cons rfl (fun K hK => ?_) (AllReady.cons rfl (fun K hK => ?_) AllReady.nil)
            · go_simp
              refine hK _ _ ?_
              clear hK K
              refine wpAny_ready (rs := [7]) (by kernel_rfl) (by simp) ?_
              refine AllReady.cons rfl (fun K hK => ?_) AllReady.nil
              go_simp
              refine hK _ _ ?_
              clear hK K
              refine wpAny_take (i := 8) (v := .int .i64 G.length) rfl (by kernel_rfl) (by kernel_rfl) (by kernel_rfl) (fun _ _ _ h => h) (.inl ⟨by kernel_rfl, fun w => by first | rfl | go_simp⟩) ?_
              refine wpAny_take (i := 9) (v := .int .i64 ((2 : Int) ^ G.length)) rfl (by kernel_rfl) (by kernel_rfl) (by kernel_rfl) (fun _ _ _ h => h) (.inl ⟨by kernel_rfl, fun w => by go_simp⟩) ?_
              refine wpAny_take (i := 10) (v := .int .i64 ((2 : Int) ^ G.length - 1)) rfl (by kernel_rfl) (by kernel_rfl) (by kernel_rfl) (fun _ _ _ h => h) (.inl ⟨by kernel_rfl, fun w => by go_simp⟩) ?_
              refine wpAny_take (i := 12) (v := .int .i64 RS) rfl (by kernel_rfl) (by kernel_rfl) (by kernel_rfl) (fun _ _ _ h => h) (.inl ⟨by kernel_rfl, fun w => by go_simp⟩) ?_
              refine wpAny_ready (rs := [13]) (by kernel_rfl) (by simp) ?_
              refine AllReady.cons rfl (fun K hK => ?_) AllReady.nil
              go_simp
              go_wp2_with (go_at_call 22; refine (hA2 _ (by exact hrg.at_ hb1')).mono ?_; rintro e w3 ⟨rfl, hb2⟩; obtain ⟨hb2', hS2, hz2⟩ := box_next (w2 := w3) hb1' hS1 hz1 (by exact hb2))
              refine wpAny_take (i := 14) (v := .bool false) rfl (by kernel_rfl) (by kernel_rfl) (by kernel_rfl) (fun _ _ _ h => h) (.inl ⟨by kernel_rfl, fun w => by first | rfl | go_simp⟩) ?_
              refine wpAny_ready (rs := [15]) (by kernel_rfl) (by simp) ?_
              refine AllReady.cons rfl (fun K hK => ?_) AllReady.nil
              go_simp
              refine hK _ _ ?_
              clear hK K
              refine wpAny_done (by kernel_rfl) ?_ _
              go_wp2_with fail
              go_ret2
              exact ⟨ret_ib HF.out.1.symm HF.out.2.symm, hb2'⟩
            · go_simp
              refine hK _ _ ?_
              clear hK K
              refine wpAny_take (i := 8) (v := .int .i64 G.length) rfl (by kernel_rfl) (by kernel_rfl) (by kernel_rfl) (fun _ _ _ h => h) (.inl ⟨by kernel_rfl, fun w => by first | rfl | go_simp⟩) ?_
              refine wpAny_take (i := 9) (v := .int .i64 ((2 : Int) ^ G.length)) rfl (by kernel_rfl) (by kernel_rfl) (by kernel_rfl) (fun _ _ _ h => h) (.inl ⟨by kernel_rfl, fun w => by go_simp⟩) ?_
              refine wpAny_take (i := 10) (v := .int .i64 ((2 : Int) ^ G.length - 1)) rfl (by kernel_rfl) (by kernel_rfl) (by kernel_rfl) (fun _ _ _ h => h) (.inl ⟨by kernel_rfl, fun w => by go_simp⟩) ?_
              refine wpAny_take (i := 12) (v := .int .i64 RS) rfl (by kernel_rfl) (by kernel_rfl) (by kernel_rfl) (fun _ _ _ h => h) (.inl ⟨by kernel_rfl, fun w => by go_simp⟩) ?_
              refine wpAny_ready (rs := [5]) (by kernel_rfl) (by simp) ?_
              refine AllReady.cons rfl (fun K hK => ?_) AllReady.nil
              go_simp
              refine hK _ _ ?_
              clear hK K
              refine wpAny_ready (rs := [13]) (by kernel_rfl) (by simp) ?_
              refine AllReady.cons rfl (fun K hK => ?_) AllReady.nil
              go_simp
              go_wp2_with (go_at_call 22; refine (hA2 _ (by exact hrg.at_ hb1')).mono ?_; rintro e w3 ⟨rfl, hb2⟩; obtain ⟨hb2', hS2, hz2⟩ := box_next (w2 := w3) hb1' hS1 hz1 (by exact hb2))
              refine wpAny_take (i := 14) (v := .bool false) rfl (by kernel_rfl) (by kernel_rfl) (by kernel_rfl) (fun _ _ _ h => h) (.inl ⟨by kernel_rfl, fun w => by first | rfl | go_simp⟩) ?_
              refine wpAny_ready (rs := [15]) (by kernel_rfl) (by simp) ?_
              refine AllReady.cons rfl (fun K hK => ?_) AllReady.nil
              go_simp
              refine hK _ _ ?_
              clear hK K
              refine wpAny_done (by kernel_rfl) ?_ _
              go_wp2_with fail
              go_ret2
              exact ⟨ret_ib HF.out.1.symm HF.out.2.symm, hb2'⟩
          · rw [decide_eq_false a2] at hA2
            have HF := Lib.hid (Sw.vTc_none HG.out (hL.2 (fun h => a2 h.2)))
            clear a1 a2 hL
            go_wp2_with fail
            refine wp_region_any (by kernel_rfl) ?_
            change wpAny _ _ _ _ _ _ _ (World.drew _)
            refine wpAny_take (i := 1) (v := .int .i64 ST) rfl (by kernel_rfl) (by kernel_rfl) (by kernel_rfl) (fun _ _ _ h => h) (.inl ⟨by kernel_rfl, fun w => by first | rfl | go_simp⟩) ?_
            refine wpAny_ready (rs := [0]) (by kernel_rfl) (by simp) ?_
            refine AllReady.cons rfl (fun K hK => ?_) AllReady.nil
            go_simp
            refine hK _ _ ?_
            clear hK K
            refine wpAny_ready (rs := [2]) (by kernel_rfl) (by simp) ?_
            refine AllReady.cons rfl (fun K hK => ?_) AllReady.nil
            go_simp
            go_wp2_with (go_at_call 22; refine (hA1 _ (by exact hrw)).mono ?_; rintro e w2 ⟨rfl, hb1⟩; obtain ⟨hb1', hS1, hz1⟩ := box_next (w2 := w2) hb hc hz (undrew (by exact hb1)))
            refine wpAny_take (i := 3) (v := .bool false) rfl (by kernel_rfl) (by kernel_rfl) (by kernel_rfl) (fun _ _ _ h => h) (.inl ⟨by kernel_rfl, fun w => by first | rfl | go_simp⟩) ?_
            refine wpAny_take (i := 4) (v := .bool false) rfl (by kernel_rfl) (by kernel_rfl) (by kernel_rfl) (fun _ _ _ h => h) (.inl ⟨by kernel_rfl, fun w => by first | rfl | go_simp⟩) ?_
            refine wpAny_take (i := 6) (v := .pointer (some ⟨w.heap.size, 0, none⟩)) rfl (by kernel_rfl) (by kernel_rfl) (by kernel_rfl) (fun _ _ _ h => h) (.inl ⟨by kernel_rfl, fun w => by first | rfl | go_simp⟩) ?_
            refine wpAny_take (i := 11) (v := .int .i64 ST) rfl (by kernel_rfl) (by kernel_rfl) (by kernel_rfl) (fun _ _ _ h => h) (.inl ⟨by kernel_rfl, fun w => by first | rfl | go_simp⟩) ?_
            refine wpAny_ready (rs := [5, 7]) (by kernel_rfl) (by simp) ?_
            refine AllReady.cons rfl (fun K hK => ?_) (AllReady.cons rfl (fun K hK => ?_) AllReady.nil)
            · go_simp
              refine hK _ _ ?_
              clear hK K
              refine wpAny_ready (rs := [7]) (by kernel_rfl) (by simp) ?_
              refine AllReady.cons rfl (fun K hK => ?_) AllReady.nil
              go_simp
              refine hK _ _ ?_
              clear hK K
              refine wpAny_take (i := 8) (v := .int .i64 G.length) rfl (by kernel_rfl) (by kernel_rfl) (by kernel_rfl) (fun _ _ _ h => h) (.inl ⟨by kernel_rfl, fun w => by first | rfl | go_simp⟩) ?_
              refine wpAny_take (i := 9) (v := .int .i64 ((2 : Int) ^ G.length)) rfl (by kernel_rfl) (by kernel_rfl) (by kernel_rfl) (fun _ _ _ h => h) (.inl ⟨by kernel_rfl, fun w => by go_simp⟩) ?_
              refine wpAny_take (i := 10) (v := .int .i64 ((2 : Int) ^ G.length - 1)) rfl (by kernel_rfl) (by kernel_rfl) (by kernel_rfl) (fun _ _ _ h => h) (.inl ⟨by kernel_rfl, fun w => by go_simp⟩) ?_
              refine wpAny_take (i := 12) (v := .int .i64 RS) rfl (by kernel_rfl) (by kernel_rfl) (by kernel_rfl) (fun _ _ _ h => h) (.inl ⟨by kernel_rfl, fun w => by go_simp⟩) ?_
              refine wpAny_ready (rs := [13]) (by kernel_rfl) (by simp) ?_
              refine AllReady.cons rfl (fun K hK => ?_) AllReady.nil
              go_simp
              go_wp2_with (go_at_call 22; refine (hA2 _ (by exact hrg.at_ hb1')).mono ?_; rintro e w3 ⟨rfl, hb2⟩; obtain ⟨hb2', hS2, hz2⟩ := box_next (w2 := w3) hb1' hS1 hz1 (by exact hb2))
              refine wpAny_take (i := 14) (v := .bool true) rfl (by kernel_rfl) (by kernel_rfl) (by kernel_rfl) (fun _ _ _ h => h) (.inl ⟨by kernel_rfl, fun w => by first | rfl | go_simp⟩) ?_
              refine wpAny_ready (rs := [15]) (by kernel_rfl) (by simp) ?_
              refine AllReady.cons rfl (fun K hK => ?_) AllReady.nil
              go_simp
              refine hK _ _ ?_
              clear hK K
              refine wpAny_done (by kernel_rfl) ?_ _
              go_wp2_with fail
              go_ret2
              exact ⟨ret_ib HF.out.1.symm HF.out.2.symm, hb2'⟩
            · go_simp
              refine hK _ _ ?_
              clear hK K
              refine wpAny_take (i := 8) (v := .int .i64 G.length) rfl (by kernel_rfl) (by kernel_rfl) (by kernel_rfl) (fun _ _ _ h => h) (.inl ⟨by kernel_rfl, fun w => by first | rfl | go_simp⟩) ?_
              refine wpAny_take (i := 9) (v := .int .i64 ((2 : Int) ^ G.length)) rfl (by kernel_rfl) (by kernel_rfl) (by kernel_rfl) (fun _ _ _ h => h) (.inl ⟨by kernel_rfl, fun w => by go_simp⟩) ?_
              refine wpAny_take (i := 10) (v := .int .i64 ((2 : Int) ^ G.length - 1)) rfl (by kernel_rfl) (by kernel_rfl) (by kernel_rfl) (fun _ _ _ h => h) (.inl ⟨by kernel_rfl, fun w => by go_simp⟩) ?_
              refine wpAny_take (i := 12) (v := .int .i64 RS) rfl (by kernel_rfl) (by kernel_rfl) (by kernel_rfl) (fun _ _ _ h => h) (.inl ⟨by kernel_rfl, fun w => by go_simp⟩) ?_
              refine wpAny_ready (rs := [5]) (by kernel_rfl) (by simp) ?_
              refine AllReady.cons rfl (fun K hK => ?_) AllReady.nil
              go_simp
              refine hK _ _ ?_
              clear hK K
              refine wpAny_ready (rs := [13]) (by kernel_rfl) (by simp) ?_
              refine AllReady.cons rfl (fun K hK => ?_) AllReady.nil
              go_simp
              go_wp2_with (go_at_call 22; refine (hA2 _ (by exact hrg.at_ hb1')).mono ?_; rintro e w3 ⟨rfl, hb2⟩; obtain ⟨hb2', hS2, hz2⟩ := box_next (w2 := w3) hb1' hS1 hz1 (by exact hb2))
              refine wpAny_take (i := 14) (v := .bool true) rfl (by kernel_rfl) (by kernel_rfl) (by kernel_rfl) (fun _ _ _ h => h) (.inl ⟨by kernel_rfl, fun w => by first | rfl | go_simp⟩) ?_
              refine wpAny_ready (rs := [15]) (by kernel_rfl) (by simp) ?_
              refine AllReady.cons rfl (fun K hK => ?_) AllReady.nil
              go_simp
              refine hK _ _ ?_
              clear hK K
              refine wpAny_done (by kernel_rfl) ?_ _
              go_wp2_with fail
              go_ret2
              exact ⟨ret_ib HF.out.1.symm HF.out.2.symm, hb2'⟩
        · rw [decide_eq_false a1] at hA1
          have HF := Lib.hid (Sw.vTc_none HG.out (hL.2 (fun h => a1 h.1)))
          clear a1 hL
          go_wp2_with fail
          refine wp_region_any (by kernel_rfl) ?_
          change wpAny _ _ _ _ _ _ _ (World.drew _)
          refine wpAny_take (i := 1) (v := .int .i64 ST) rfl (by kernel_rfl) (by kernel_rfl) (by kernel_rfl) (fun _ _ _ h => h) (.inl ⟨by kernel_rfl, fun w => by first | rfl | go_simp⟩) ?_
          refine wpAny_ready (rs := [0]) (by kernel_rfl) (by simp) ?_
          refine AllReady.cons rfl (fun K hK => ?_) AllReady.nil
          go_simp
          refine hK _ _ ?_
          clear hK K
          refine wpAny_ready (rs := [2]) (by kernel_rfl) (by simp) ?_
          refine AllReady.cons rfl (fun K hK => ?_) AllReady.nil
          go_simp
          go_wp2_with (go_at_call 22; refine (hA1 _ (by exact hrw)).mono ?_; rintro e w2 ⟨rfl, hb1⟩; obtain ⟨hb1', hS1, hz1⟩ := box_next (w2 := w2) hb hc hz (undrew (by exact hb1)))
          refine wpAny_take (i := 3) (v := .bool true) rfl (by kernel_rfl) (by kernel_rfl) (by kernel_rfl) (fun _ _ _ h => h) (.inl ⟨by kernel_rfl, fun w => by first | rfl | go_simp⟩) ?_
          refine wpAny_take (i := 4) (v := .bool true) rfl (by kernel_rfl) (by kernel_rfl) (by kernel_rfl) (fun _ _ _ h => h) (.inl ⟨by kernel_rfl, fun w => by first | rfl | go_simp⟩) ?_
          refine wpAny_take (i := 5) (v := undef) rfl (by kernel_rfl) (by kernel_rfl) (by kernel_rfl) (fun _ _ _ h => h) (.inr ⟨by kernel_rfl, rfl⟩) ?_
          refine wpAny_take (i := 6) (v := undef) rfl (by kernel_rfl) (by kernel_rfl) (by kernel_rfl) (fun _ _ _ h => h) (.inr ⟨by kernel_rfl, rfl⟩) ?_
          refine wpAny_take (i := 7) (v := undef) rfl (by kernel_rfl) (by kernel_rfl) (by kernel_rfl) (fun _ _ _ h => h) (.inr ⟨by kernel_rfl, rfl⟩) ?_
          refine wpAny_take (i := 8) (v := undef) rfl (by kernel_rfl) (by kernel_rfl) (by kernel_rfl) (fun _ _ _ h => h) (.inr ⟨by kernel_rfl, rfl⟩) ?_
          refine wpAny_take (i := 9) (v := undef) rfl (by kernel_rfl) (by kernel_rfl) (by kernel_rfl) (fun _ _ _ h => h) (.inr ⟨by kernel_rfl, rfl⟩) ?_
          refine wpAny_take (i := 10) (v := undef) rfl (by kernel_rfl) (by kernel_rfl) (by kernel_rfl) (fun _ _ _ h => h) (.inr ⟨by kernel_rfl, rfl⟩) ?_
          refine wpAny_take (i := 11) (v := undef) rfl (by kernel_rfl) (by kernel_rfl) (by kernel_rfl) (fun _ _ _ h => h) (.inr ⟨by kernel_rfl, rfl⟩) ?_
          refine wpAny_take (i := 12) (v := undef) rfl (by kernel_rfl) (by kernel_rfl) (by kernel_rfl) (fun _ _ _ h => h) (.inr ⟨by kernel_rfl, rfl⟩) ?_
          refine wpAny_take (i := 13) (v := undef) rfl (by kernel_rfl) (by kernel_rfl) (by kernel_rfl) (fun _ _ _ h => h) (.inr ⟨by kernel_rfl, rfl⟩) ?_
          refine wpAny_take (i := 14) (v := undef) rfl (by kernel_rfl) (by kernel_rfl) (by kernel_rfl) (fun _ _ _ h => h) (.inr ⟨by kernel_rfl, rfl⟩) ?_
          refine wpAny_ready (rs := [15]) (by kernel_rfl) (by simp) ?_
          refine AllReady.cons rfl (fun K hK => ?_) AllReady.nil
          go_simp
          refine hK _ _ ?_
          clear hK K
          refine wpAny_done (by kernel_rfl) ?_ _
          go_wp2_with fail
          go_ret2
          exact ⟨ret_ib HF.out.1.symm HF.out.2.symm, hb1'⟩
end Go.Proofs.Ytlfigdpgdkbknaa

