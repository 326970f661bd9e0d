/- OutMany of the program and of the reference, each by its contract. No conditions. -/
import Derived.Test.YtooohgjmomhjoaaPress
import Derived.Test.YtooohgjmomhjoaaRows2
import Derived.Test.YtooohgjmomhjoaaRank2
import Derived.Test.YtooohgjmomhjoaaMath6
namespace Go.Proofs.Ytooohgjmomhjoaa
open Go.RowKit
theorem vRank_rows {G : List Nat} (hG : Sw.GVN G) : Sw.vRank (Sw.toI (Sw.tab G.length (Sw.row G))) = ((Sw.rank G.length (Sw.row G) : Nat) : Int) := by
  have hn := hG.le
  have hlt : ∀ k, k < G.length → Sw.row G k < 2 ^ 9 := fun k hk => Nat.lt_of_lt_of_le (Sw.row_lt hG hk) (Nat.pow_le_pow_right (by decide) hn)
  have hok : Sw.okRows (Sw.toI (Sw.tab G.length (Sw.row G))) := by
    refine ⟨by rw [toI_tab_len]; exact hn, fun k hk => ?_⟩
    rw [toI_tab_len] at hk
    rw [gat_toI_tab _ hk]
    have := hlt k hk
    omega
  rw [Sw.vRank_yes hok, toI_tab_len, Sw.toN_toI]
  congr 1
  exact Sw.rank_congr hn (fun j hj => by rw [Sw.nb_tab _ hj]; exact hlt j hj) (fun j hj => Sw.nb_tab _ hj)
theorem rank_rows_le {G : List Nat} (hG : Sw.GVN G) : Sw.rank G.length (Sw.row G) ≤ 9 :=
  Nat.le_trans (Sw.rank_le hG.le fun k hk => Nat.lt_of_lt_of_le (Sw.row_lt hG hk) (Nat.pow_le_pow_right (by decide) hG.le)) hG.le
theorem implOutMany (l : List Int) (A : Option Addr) (c : Nat) (hl : l.length ≤ 1099511627776) (w : World) (hr : RdI w w.heap.size A l) :
    Calls Try.prog 13 #[.agg #[.slice A l.length c]] w fun e w' => e = .returned (.int .i64 (Sw.vOutMany l)) ∧ Below w.heap.size w w' := by
  have hr1 := hr.at_ (below1 (.cells #[.slice A l.length c] 25))
  rcases Sw.gvB_cases l with hv | ⟨G, rfl, hG⟩
  · have HF := Lib.hid (Sw.vOutMany_no hv)
    go_enter Try.func13, Try.ntmps13
    go_wp2_with fail
    refine (implGraphValid_no l A c hl hv _ hr1).mono ?_
    rintro e w1 ⟨rfl, hb⟩
    obtain ⟨hb, hc, hz⟩ := box_after hb
    go_wp2_with fail
    go_ret
    exact ⟨ret_i HF.out.symm, hb⟩
  · have HF := Lib.hid (Sw.vOutMany_yes hG)
    have hR := implRowsOf (Sw.toI G) A c hl
    rw [Sw.vRows_yes hG] at hR
    have hK := implRankOf (Sw.toI (Sw.tab G.length (Sw.row G)))
    rw [vRank_rows hG] at hK
    have hg := fun W => implGraphValid_yes (Sw.toI G) A c hl (Sw.gvB_yes hG) W
    have hr9 := rank_rows_le hG
    obtain ⟨R, hRk⟩ : ∃ R, R = Sw.rank G.length (Sw.row G) := ⟨_, rfl⟩
    rw [← hRk] at hK hr9 HF
    have hp : (2 : Int) ^ R ≤ 512 := pow9 hr9
    have hp1 := pow1 R
    have hL : (Sw.toI (Sw.tab G.length (Sw.row G))).length ≤ 1099511627776 := by rw [toI_tab_len]; have := hG.le; omega
    have HL := Lib.hid hL
    clear hRk hL
    go_enter Try.func13, Try.ntmps13
    go_wp2_with fail
    refine (hg _ hr1).mono ?_
    rintro e w1 ⟨rfl, hb⟩
    obtain ⟨hb, hc, hz⟩ := box_after hb
    go_wp2_with fail
    refine (hR _ (hr.at_ hb)).mono ?_
    rintro e w2 ⟨v, rfl, hO, hb2⟩
    obtain ⟨hb, hc, hz⟩ := box_next hb hc hz hb2
    obtain ⟨A2, c2, rfl, hrq⟩ := hO.rd
    clear hO
    go_wp2_with fail
    refine (hK A2 c2 HL.out _ hrq).mono ?_
    rintro e w3 ⟨rfl, hb3⟩
    obtain ⟨hb, hc, hz⟩ := box_next hb hc hz hb3
    go_wp2_with fail
    go_ret
    exact ⟨ret_i (by rw [HF.out, ← pow_nat]), hb⟩
theorem OwnB.below {w w' : World} {lo hi n c B : Nat} (h : OwnB w lo hi n c) (hb : Below B w w') (hB : hi ≤ B) : OwnB w' lo hi n c := by
  refine ⟨?_, h.2.1, Nat.le_trans h.2.2 hb.size⟩
  rcases h.1.2 with ⟨hv, hn⟩ | ⟨g, cap, cur, hv, hg, hh, r⟩
  · exact ⟨h.1.1, .inl ⟨hv, hn⟩⟩
  · refine ⟨h.1.1, .inr ⟨g, cap, cur, hv, hg, ?_, r⟩⟩
    have e : g = lo := by injection hv with e _ _; injection e with e; injection e with e; exact e.symm
    subst e
    rw [hb.block g (by have := h.2.1; omega)]; exact hh
theorem OwnB.up {w : World} {lo hi n c : Nat} (h : OwnB w lo hi n c) : OwnB w lo w.heap.size n c := ⟨h.1, Nat.lt_of_lt_of_le h.2.1 h.2.2, Nat.le_refl _⟩
set_option maxHeartbeats 2000000 in
theorem specOutMany (l : List Int) (A : Option Addr) (c : Nat) (hl : l.length ≤ 1099511627776) (w : World) (hr : RdI w w.heap.size A l) :
    Calls Try.prog 14 #[.agg #[.slice A l.length c]] w fun e w' => e = .returned (.int .i64 (Sw.vOutMany l)) ∧ Below w.heap.size w w' := by
  have hr1 := hr.at_ (below1 (.cells #[.slice A l.length c] 25))
  rcases Sw.gvB_cases l with hv | ⟨G, rfl, hG⟩
  · have HF := Lib.hid (Sw.vOutMany_no hv)
    go_enter Try.func14, Try.ntmps14
    go_wp2_with fail
    refine (specGraphValid_no l A c hl hv _ hr1).mono ?_
    rintro e w1 ⟨rfl, hb⟩
    obtain ⟨hb, hc, hz⟩ := box_after hb
    go_wp2_with fail
    go_ret
    exact ⟨ret_i HF.out.symm, hb⟩
  · have HF := Lib.hid (Sw.vOutMany_yes hG)
    obtain ⟨ad, rfl, hrg⟩ := RdG.of hG hr
    have hn := hG.le
    obtain ⟨N, hN0⟩ : ∃ N, N = 2 ^ G.length := ⟨_, rfl⟩
    have hN : (2 : Int) ^ G.length = (N : Int) := by rw [hN0, pow_nat]
    have h512 : N ≤ 512 := by rw [hN0]; exact Sw.pow_le9 hn
    have hN1 : 1 ≤ N := by rw [hN0]; exact Nat.two_pow_pos _
    have hNw : IntKind.i64.wrap (N : Int) = (N : Int) := IntWalk.i64_in _ (by omega)
    have HN0 := Lib.hid hN0
    clear hN0
    obtain ⟨ib, hib, hzb0, hzb1, hzb2⟩ := info_parts info_bool
    rw [Sw.toI_len]
    go_enter Try.func14, Try.ntmps14
    go_wp2_with fail
    refine (specGV G hG ad c _ (hrg.at_ (below1 _))).mono ?_
    rintro e w1 ⟨rfl, hb⟩
    obtain ⟨hb, hc, hz⟩ := box_after hb
    go_wp2_with (at_make; go_loud (refine wpList_make_full _ rfl _ _ 49 rfl w1.heap.size 4 ib (.bool false) 1 Try.underlying49 hib hzb0 hzb1 .i64 .i64 _ _ N rfl rfl rfl rfl (by rw [hzb2]; omega) (by unfold maxLen; omega) (Nat.le_refl _) ?_); intro w2 hown2 hgrow2)
    have hO := made_bools hown2
    have hb2 := below_of_grown (B := w1.heap.size) hgrow2 (Nat.le_refl _) (fun g h => by cases h)
    obtain ⟨hb, hc, hz1'⟩ := box_next hb hc hz hb2
    clear hown2 hgrow2 hb2 hib hzb0 hzb1 hzb2 hN hNw
    go_loopw [4, 5] (fun x i wr => ∃ k C : Nat, k ≤ N ∧ i = .int .i64 k ∧ x = .int .i64 (Sw.cl (fun u => C.testBit u) N : Nat) ∧ Sw.Seen G k C ∧ OwnB wr w1.heap.size wr.heap.size N C ∧ Below w.heap.size w wr ∧ wr.cell? ⟨w.heap.size, 0, none⟩ = some (.slice (some ad) G.length c) ∧ w.heap.size < wr.heap.size) (fun _ i _ => (N - intOf i).toNat)
    case atStart =>
      refine ⟨0, 0, Nat.zero_le _, rfl, ?_, Sw.Seen.zero G, hO, hb, hc, hz1'⟩
      have : Sw.cl (fun u => (0 : Nat).testBit u) N = 0 := by
        have : ∀ m, Sw.cl (fun u => (0 : Nat).testBit u) m = 0 := by
          intro m
          induction m with
          | zero => rfl
          | succ m ih => rw [Sw.cl_succ, ih]; simp
        exact this N
      rw [this]; rfl
    case round =>
      obtain ⟨k, C, hk, rfl, rfl, hS, hO, hb, hc, hz'⟩ := hrel
      have HS := Lib.hid hS
      have HO := Lib.hid hO
      clear hS hO
      have hcl := Sw.cl_le (fun u => C.testBit u) N
      by_cases hlt : k < N
      · have hd : decide ((k : Int) < (N : Int)) = true := by rw [decide_eq_true_eq]; omega
        have hk40 : k < 1099511627776 := by omega
        have hC := fun W => l2Press G hG ad c k hk40 W
        have hP : Sw.prs G k < N := by rw [HN0.out]; exact Sw.prs_lt hG k
        have hS1 := fun h => HS.out.old h
        have hS2 := HS.out.new
        obtain ⟨P, hPe⟩ : ∃ P, P = Sw.prs G k := ⟨_, rfl⟩
        rw [← hPe] at hC hP hS1 hS2
        have HS2 := Lib.hid hS2
        clear hPe hS2
        go_wp2_with fail
        refine (hC _ (hrg.at_ hb)).mono ?_
        rintro e w3 ⟨rfl, hb3⟩
        have hO3 := (HO.out.below hb3 (Nat.le_refl _)).up
        obtain ⟨hb, hc, hz'⟩ := box_next hb hc hz' hb3
        obtain ⟨hck, hfk⟩ := hO3.cell P hP
        have HO3 := Lib.hid hO3
        clear hO3
        by_cases hbit : C.testBit P = true
        · have HS1 := Lib.hid (hS1 hbit)
          rw [hbit] at hck
          clear hbit hS1
          go_wp2_with fail
          go_roundw
          case rel => exact ⟨k + 1, C, by omega, by go_num, rfl, HS1.out, HO3.out, hb, hc, hz'⟩
          case measure => simp [intOf]; omega
        · simp only [Bool.not_eq_true] at hbit
          have HCN := Lib.hid (Sw.cl_new hbit hP)
          rw [hbit] at hck
          clear hbit hS1
          go_wp2_with fail
          refine (hC _ (hrg.at_ hb)).mono ?_
          rintro e w4 ⟨rfl, hb4⟩
          have hO4 := (HO3.out.below hb4 (Nat.le_refl _)).up
          obtain ⟨hb, hc, hz'⟩ := box_next hb hc hz' hb4
          obtain ⟨hck4, hfk4⟩ := hO4.cell P hP
          have hset := hO4.set P
          have hbs := hb.trans (below_of_grown (B := w.heap.size) hset.2 hb.size (fun g h => by injection h with h; omega))
          have hcs := hset.2.cell hc (by intro e; injection e with e; simp at e; omega)
          have HSet := Lib.hid hset.1.up
          have HBS := Lib.hid hbs
          have HCS := Lib.hid hcs
          clear hset hbs hcs hO4
          go_wp2_with fail
          go_roundw
          case rel => exact ⟨k + 1, C ||| 2 ^ P, by omega, by go_num, by rw [HCN.out]; go_num, HS2.out, HSet.out, HBS.out, HCS.out, by simpa using hz'⟩
          case measure => simp [intOf]; omega
      · have hkN : k = N := by omega
        have HV : Hid (Sw.cl (fun u => C.testBit u) N = 2 ^ Sw.rank G.length (Sw.row G)) := by
          have h := HS.out
          rw [hkN, HN0.out] at h
          have := h.count hG
          show _ = _
          rw [HN0.out]; exact this
        have hd : decide ((k : Int) < (N : Int)) = false := by rw [decide_eq_false_iff_not]; omega
        clear hkN
        go_wp2_with fail
        go_ret
        exact ⟨ret_i (by rw [HF.out, HV.out]), hb⟩
end Go.Proofs.Ytooohgjmomhjoaa

