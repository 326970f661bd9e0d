/- WorstOut of the program and of the reference, each by its contract. No conditions. -/
import Derived.Test.YtnjfclfpjdbdnaaOb
import Derived.Test.YtnjfclfpjdbdnaaOwn
import Derived.Test.YtnjfclfpjdbdnaaMath6
namespace Go.Proofs.Ytnjfclfpjdbdnaa
open Go.RowKit
/-- a row of the call's own that holds the ints f 0, .. f (n-1) -/
def OwnZ (w : World) (lo hi g n c : Nat) (f : Nat → Int) : Prop := OwnI w lo hi (.slice (some ⟨g, 0, none⟩) n c) (Sw.tab n f)
theorem OwnZ.cell {w : World} {lo hi g n c : Nat} {f : Nat → Int} (h : OwnZ w lo hi g n c f) (k : Nat) (hk : k < n) : w.cell? ⟨g, k, none⟩ = some (.int .i64 (f k)) ∧ w.frozen? ⟨g, k, none⟩ = false := by
  obtain ⟨g', c', e, _, _, h4⟩ := OwnI.form h (by rw [Sw.tab_len]; omega)
  injection e with e1 _ _
  injection e1 with e1
  injection e1 with e1 _ _
  subst e1
  have := h4 k (by rw [Sw.tab_len]; exact hk)
  rw [Sw.gat_tab f hk] at this; exact this
theorem OwnZ.set {w : World} {lo hi g n c : Nat} {f : Nat → Int} (h : OwnZ w lo hi g n c f) (k : Nat) (x : Int) :
    OwnZ (w.setCell ⟨g, k, none⟩ (.int .i64 x)) lo hi g n c (fun j => if j = k then x else f j) ∧ w.grownBy (w.setCell ⟨g, k, none⟩ (.int .i64 x)) (some g) := by
  have h' : OwnI w lo hi (.slice (some ⟨g, 0, none⟩) (Sw.tab n f).length c) (Sw.tab n f) := by rw [Sw.tab_len]; exact h
  obtain ⟨h1, h2⟩ := h'.set k x
  rw [List.length_set, Sw.tab_len, Sw.tab_set] at h1
  exact ⟨h1, h2⟩
theorem OwnZ.up {w : World} {lo hi g n c : Nat} {f : Nat → Int} (h : OwnZ w lo hi g n c f) : OwnZ w lo w.heap.size g n c f := OwnI.up h
theorem OwnZ.below {w w' : World} {lo hi g n c B : Nat} {f : Nat → Int} (h : OwnZ w lo hi g n c f) (hb : Below B w w') (hB : hi ≤ B) : OwnZ w' lo hi g n c f := OwnI.below h hb hB
theorem oc_put {G : List Nat} {k : Nat} (h : Sw.oc G k (Sw.prs G k) < 0 ∨ ((Sw.cnt k : Nat) : Int) < Sw.oc G k (Sw.prs G k)) : (fun j => if j = Sw.prs G k then ((Sw.cnt k : Nat) : Int) else Sw.oc G k j) = Sw.oc G (k + 1) := by
  funext j
  by_cases q : j = Sw.prs G k
  · subst q; rw [if_pos rfl, Sw.oc_take h]
  · rw [if_neg q, Sw.oc_far q]
theorem oc_stay {G : List Nat} {k : Nat} (h : ¬ (Sw.oc G k (Sw.prs G k) < 0 ∨ ((Sw.cnt k : Nat) : Int) < Sw.oc G k (Sw.prs G k))) : Sw.oc G (k + 1) = Sw.oc G k := by
  funext j
  by_cases q : j = Sw.prs G k
  · subst q; exact Sw.oc_leave h
  · exact Sw.oc_far q
theorem minus_first (n : Nat) : Sw.tab n (fun j => if j < 0 then (-1 : Int) else 0) = List.replicate n 0 := by
  apply Sw.gat_ext (by rw [Sw.tab_len, List.length_replicate])
  intro k hk
  rw [Sw.tab_len] at hk
  rw [Sw.gat_tab _ hk]
  unfold Sw.gat; simp [hk]
theorem minus_next (k : Nat) : (fun j => if j = k then (-1 : Int) else if j < k then -1 else 0) = fun j => if j < k + 1 then (-1 : Int) else 0 := by
  funext j
  by_cases h : j = k
  · subst h; rw [if_pos rfl, if_pos (by omega)]
  · rw [if_neg h]
    by_cases q : j < k
    · rw [if_pos q, if_pos (by omega)]
    · rw [if_neg q, if_neg (by omega)]
set_option maxHeartbeats 2000000 in
theorem implWorstOut (l : List Int) (A : Option Addr) (c : Nat) (hl : l.length ≤ 1099511627776) (w : World) (hr : RdI w w.heap.size A l) :
    Calls Try.prog 11 #[.agg #[.slice A l.length c]] w fun e w' => e = .returned (.int .i64 (Sw.vWo l)) ∧ Below w.heap.size w w' := by
  have hr1 := hr.at_ (below1 (.cells #[.slice A l.length c] 27))
  rcases Sw.gvB_cases l with hv | ⟨G, rfl, hG⟩
  · have HF := Lib.hid (Sw.vWo_no hv)
    go_enter Try.func11, Try.ntmps11
    go_wp2_with fail
    refine (implGraphValid_no l A c hl hv _ hr1).mono ?_
    rintro e w1 ⟨rfl, hb⟩
    obtain ⟨hb, hc, hz⟩ := box_after hb
    go_wp2_with fail
    go_ret
    exact ⟨ret_i HF.out.symm, hb⟩
  · have HF := Lib.hid (Sw.vWo_yes hG)
    obtain ⟨ad, rfl, hrg⟩ := RdG.of hG hr
    have hn := hG.le
    obtain ⟨N, hN0⟩ : ∃ N, N = 2 ^ G.length := ⟨_, rfl⟩
    have hN : (2 : Int) ^ G.length = (N : Int) := by rw [hN0, pow_nat]
    have h512 : N ≤ 512 := by rw [hN0]; exact Sw.pow_le9 hn
    have hN1 : 1 ≤ N := by rw [hN0]; exact Nat.two_pow_pos _
    have hNw : IntKind.i64.wrap (N : Int) = (N : Int) := IntWalk.i64_in _ (by omega)
    have HN0 := Lib.hid hN0
    clear hN0
    obtain ⟨i0, hi, hz0, hz1, hz2⟩ := info_parts info_int
    rw [Sw.toI_len]
    go_enter Try.func11, Try.ntmps11
    go_wp2_with fail
    refine (implGV G hG ad c _ (hrg.at_ (below1 _))).mono ?_
    rintro e w1 ⟨rfl, hb⟩
    obtain ⟨hb, hc, hz⟩ := box_after hb
    go_wp2_with (at_make; go_loud (refine wpList_make_full _ rfl _ _ 22 rfl w1.heap.size 3 i0 (.int .i64 0) 1 Try.underlying22 hi hz0 hz1 .i64 .i64 _ _ N rfl rfl rfl rfl (by rw [hz2]; omega) (by unfold maxLen; omega) (Nat.le_refl _) ?_); intro w2 hown hgrow)
    have hO : OwnZ w2 w1.heap.size w2.heap.size w1.heap.size N N (fun j => if j < 0 then (-1 : Int) else 0) := by
      unfold OwnZ
      rw [minus_first]; exact made_ints hown
    have hb2 := below_of_grown (B := w1.heap.size) hgrow (Nat.le_refl _) (fun g h => by cases h)
    obtain ⟨hb, hc, hz1'⟩ := box_next hb hc hz hb2
    clear hown hgrow hb2 hi hz0 hz1 hz2
    go_loopw [21] (fun i wr => ∃ k : Nat, k ≤ N ∧ i = .int .i64 k ∧ OwnZ wr w1.heap.size wr.heap.size w1.heap.size N N (fun j => if j < k then (-1 : Int) else 0) ∧ Below w.heap.size w wr ∧ wr.cell? ⟨w.heap.size, 0, none⟩ = some (.slice (some ad) G.length c) ∧ w.heap.size < wr.heap.size) (fun i _ => (N - intOf i).toNat)
    case atStart => exact ⟨0, Nat.zero_le _, rfl, hO, hb, hc, hz1'⟩
    case round =>
      obtain ⟨k, hk, rfl, hO, hb, hc, hz'⟩ := hrel
      by_cases hlt : k < N
      · have hd : decide ((k : Int) < (N : Int)) = true := by rw [decide_eq_true_eq]; omega
        obtain ⟨hck, hfk⟩ := hO.cell k hlt
        have hset := hO.set k (-1)
        rw [minus_next] at hset
        have hbs := hb.trans (below_of_grown (B := w.heap.size) hset.2 hb.size (fun g h => by injection h with h; omega))
        have hcs := hset.2.cell hc (by intro e; injection e with e; simp at e; omega)
        have HSet := Lib.hid hset.1.up
        have HBS := Lib.hid hbs
        have HCS := Lib.hid hcs
        clear hset hbs hcs hO
        go_wp2_with fail
        go_roundw
        case rel => exact ⟨k + 1, by omega, by go_num, HSet.out, HBS.out, HCS.out, by simpa using hz'⟩
        case measure => simp [intOf]; omega
      · have hkN : k = N := by omega
        have hd : decide ((k : Int) < (N : Int)) = false := by rw [decide_eq_false_iff_not]; omega
        have hO0 : OwnZ wr w1.heap.size wr.heap.size w1.heap.size N N (Sw.oc G 0) := by
          unfold OwnZ at hO ⊢
          rw [Sw.tab_congr (g := Sw.oc G 0) (fun j hj => by rw [if_pos (by omega), Sw.oc_zero])] at hO
          exact hO
        clear hkN hO
        go_wp2_with fail
        go_loopw [32] (fun i wr => ∃ k : Nat, k ≤ N ∧ i = .int .i64 k ∧ OwnZ wr w1.heap.size wr.heap.size w1.heap.size N N (Sw.oc G k) ∧ Below w.heap.size w wr ∧ wr.cell? ⟨w.heap.size, 0, none⟩ = some (.slice (some ad) G.length c) ∧ w.heap.size < wr.heap.size) (fun i _ => (N - intOf i).toNat)
        case atStart => exact ⟨0, Nat.zero_le _, rfl, hO0, hb, hc, hz'⟩
        case round =>
          obtain ⟨k, hk, rfl, hO, hb, hc, hz'⟩ := hrel
          have HO := Lib.hid hO
          clear hO
          by_cases hlt : k < N
          · have hd : decide ((k : Int) < (N : Int)) = true := by rw [decide_eq_true_eq]; omega
            have hk40 : k < 1099511627776 := by omega
            have hC := fun W => pressesChange G hG ad c k hk40 W
            have hP : Sw.prs G k < N := by rw [HN0.out]; exact Sw.prs_lt hG k
            have hbd := Sw.oc_bd G k (Sw.prs G k) (by omega)
            have hS1 := oc_put (G := G) (k := k)
            have hS2 := oc_stay (G := G) (k := k)
            have hcl := Sw.cnt_le (s := k) (n := 9) (by omega) (by omega)
            obtain ⟨P, hPe⟩ : ∃ P, P = Sw.prs G k := ⟨_, rfl⟩
            rw [← hPe] at hC hP hS1 hS2 hbd
            obtain ⟨x, hx⟩ : ∃ x, x = Sw.oc G k P := ⟨_, rfl⟩
            obtain ⟨M, hM⟩ : ∃ M, M = Sw.cnt k := ⟨_, rfl⟩
            have hCB := fun W => countBits k hk40 W
            rw [← hM] at hCB hS1 hS2 hcl
            rw [← hx] at hbd hS1 hS2
            have HX := Lib.hid hx
            clear hPe hM hx
            go_wp2_with fail
            refine (hC _ (hrg.at_ hb)).mono ?_
            rintro e w3 ⟨rfl, hb3⟩
            have hO3 := (HO.out.below hb3 (Nat.le_refl _)).up
            obtain ⟨hb, hc, hz'⟩ := box_next hb hc hz' hb3
            obtain ⟨hck, hfk⟩ := hO3.cell P hP
            rw [← HX.out] at hck
            have hset := hO3.set P (M : Int)
            have hbs := hb.trans (below_of_grown (B := w.heap.size) hset.2 hb.size (fun g h => by injection h with h; omega))
            have hcs := hset.2.cell hc (by intro e; injection e with e; simp at e; omega)
            have HSet := Lib.hid hset.1.up
            have HBS := Lib.hid hbs
            have HCS := Lib.hid hcs
            have HO3 := Lib.hid hO3
            clear hset hbs hcs hO3
            have HS1 := Lib.hid hS1
            have HS2 := Lib.hid hS2
            clear hS1 hS2
            go_wp2_with fail
            refine (hCB _).mono ?_
            rintro e w4 ⟨rfl, rfl⟩
            clear hC hCB
            by_cases hx0 : x < 0
            · have hS := HS1.out (.inl hx0)
              rw [hS] at HSet
              clear hS
              go_wp2_with fail
              go_roundw
              case rel => exact ⟨k + 1, by omega, by go_num, HSet.out, HBS.out, HCS.out, by simpa using hz'⟩
              case measure => simp [intOf]; omega
            · by_cases hx1 : (M : Int) < x
              · have hS := HS1.out (.inr hx1)
                rw [hS] at HSet
                clear hS
                go_wp2_with fail
                go_roundw
                case rel => exact ⟨k + 1, by omega, by go_num, HSet.out, HBS.out, HCS.out, by simpa using hz'⟩
                case measure => simp [intOf]; omega
              · have hS := HS2.out (by omega)
                have HS := Lib.hid hS
                clear hS
                go_wp2_with fail
                go_roundw
                case rel => exact ⟨k + 1, by omega, by go_num, by rw [HS.out]; exact HO3.out, hb, hc, hz'⟩
                case measure => simp [intOf]; omega
          · have hkN : k = N := by omega
            have hd : decide ((k : Int) < (N : Int)) = false := by rw [decide_eq_false_iff_not]; omega
            have hO2 : OwnZ wr w1.heap.size wr.heap.size w1.heap.size N N (Sw.oc G (2 ^ G.length)) := by
              have e : k = 2 ^ G.length := by rw [hkN]; exact HN0.out
              rw [← e]; exact HO.out
            have HO2 := Lib.hid hO2
            clear hkN hO2 HO
            go_wp2_with fail
            go_loopw [8, 60] (fun x i wr2 => ∃ k : Nat, k ≤ N ∧ i = .int .i64 k ∧ x = .int .i64 (Sw.woK G k) ∧ wr = wr2) (fun _ i _ => (N - intOf i).toNat)
            case atStart => exact ⟨0, Nat.zero_le _, rfl, rfl, rfl⟩
            case round =>
              obtain ⟨j, hj, rfl, rfl, rfl⟩ := hrel
              by_cases hlt : j < N
              · have hd : decide ((j : Int) < (N : Int)) = true := by rw [decide_eq_true_eq]; omega
                obtain ⟨hcj, _⟩ := HO2.out.cell j hlt
                have HW := Lib.hid (Sw.woK_succ G j)
                have hbd := Sw.oc_bd G (2 ^ G.length) j (Sw.pow_le9 hn)
                have hbd2 := Sw.woK_bd hn j
                obtain ⟨x, hx⟩ : ∃ x, x = Sw.oc G (2 ^ G.length) j := ⟨_, rfl⟩
                rw [← hx] at hcj hbd HW
                clear hx
                go_wp2_with fail
                all_goals
                  go_roundw
                  case rel => exact ⟨j + 1, by omega, by go_num, val_i (by rw [HW.out]; omega), by trivial⟩
                  case measure => simp [intOf]; omega
              · have hkN : j = N := by omega
                have hd : decide ((j : Int) < (N : Int)) = false := by rw [decide_eq_false_iff_not]; omega
                have HV : Hid (Sw.woK G j = Sw.wo G) := by show _ = _; rw [hkN, HN0.out]; rfl
                clear hkN
                go_wp2_with fail
                go_ret
                exact ⟨ret_i (by rw [HF.out, HV.out]), hb⟩
theorem specOutByG (G : List Nat) (hG : Sw.GVN G) (S : Nat) (hS : S < 2 ^ G.length) (ad : Addr) (c : Nat) (w : World) (hr : RdG w w.heap.size ad G) :
    Calls Try.prog 20 #[.agg #[.slice (some ad) G.length c], .int .i64 S] w fun e w' => e = .returned (.tuple #[.int .i64 (Sw.obI (Sw.ob G S)), .bool (Sw.ob G S).isSome]) ∧ Below w.heap.size w w' := by
  have h := specOutBy (Sw.toI G) (some ad) c (S : Int) (by rw [Sw.toI_len]; have := hG.le; omega) w hr.toI
  rw [Sw.toI_len, Sw.vOutBy_yes hG hS] at h; exact h
set_option maxHeartbeats 2000000 in
theorem specWorstOut (l : List Int) (A : Option Addr) (c : Nat) (hl : l.length ≤ 1099511627776) (w : World) (hr : RdI w w.heap.size A l) :
    Calls Try.prog 10 #[.agg #[.slice A l.length c]] w fun e w' => e = .returned (.int .i64 (Sw.vWo l)) ∧ Below w.heap.size w w' := by
  have hr1 := hr.at_ (below1 (.cells #[.slice A l.length c] 27))
  rcases Sw.gvB_cases l with hv | ⟨G, rfl, hG⟩
  · have HF := Lib.hid (Sw.vWo_no hv)
    by_cases h9 : (l.length : Int) ≤ 9
    · have hp : (2 : Int) ^ l.length ≤ 512 := pow9 (by omega)
      have hp1 := pow1 l.length
      go_enter Try.func10, Try.ntmps10
      go_wp2_with fail
      refine wp_loop_rounds 1 ?_
      rw [rounds_succ]
      go_wp2_with fail
      refine (specGraphValid_no l A c hl hv _ hr1).mono ?_
      rintro e w1 ⟨rfl, hb⟩
      obtain ⟨hb, hc, hz⟩ := box_after hb
      go_wp2_with fail
      go_ret
      exact ⟨ret_i HF.out.symm, hb⟩
    · have hw : wrap64 512 = 512 := by unfold wrap64; rfl
      go_enter Try.func10, Try.ntmps10
      go_wp2_with fail
      refine wp_loop_rounds 1 ?_
      rw [rounds_succ]
      go_wp2_with fail
      refine (specGraphValid_no l A c hl hv _ hr1).mono ?_
      rintro e w1 ⟨rfl, hb⟩
      obtain ⟨hb, hc, hz⟩ := box_after hb
      go_wp2_with fail
      go_ret
      exact ⟨ret_i HF.out.symm, hb⟩
  · have HF := Lib.hid (Sw.vWo_yes hG)
    obtain ⟨ad, rfl, hrg⟩ := RdG.of hG hr
    have hn := hG.le
    have hp := pow9 hG.le
    have hp1 := pow1 G.length
    have hmin : min (G.length : Int) 9 = (G.length : Int) := by omega
    have hc0 := cell_new w (.slice (some ad) G.length c) 27
    rw [Sw.toI_len]
    go_enter Try.func10, Try.ntmps10
    go_wp2_with fail
    go_loopw [3, 4] (fun x i wr => ∃ k : Nat, k ≤ 2 ^ G.length ∧ i = .int .i64 k ∧ x = .int .i64 (Sw.wsK G k) ∧ Below w.heap.size w wr ∧ wr.cell? ⟨w.heap.size, 0, none⟩ = some (.slice (some ad) G.length c) ∧ w.heap.size < wr.heap.size) (fun _ i _ => (1024 - intOf i).toNat)
    case atStart => exact ⟨0, Nat.zero_le _, rfl, rfl, below1 _, hc0, by simp⟩
    case round =>
      obtain ⟨k, hk, rfl, rfl, hb, hc, hz⟩ := hrel
      have h512 := Sw.pow_le9 hn
      by_cases hlt : (k : Int) < 2 ^ G.length
      · have HN := Lib.hid (ob_lt_pow hlt)
        have HK : Hid (k + 1 ≤ 2 ^ G.length) := by have := HN.out; show _ ≤ _; omega
        have hC := fun W => specOutByG G hG k HN.out ad c W
        have hbd := Sw.wsK_bd hn k
        rcases hO : Sw.ob G k with _ | b
        · have HA := Lib.hid (Sw.wsK_none hn hO)
          rw [hO, show Sw.obI none = -1 from rfl, show (none : Option Nat).isSome = false from rfl] at hC
          clear hk h512 hO
          go_wp2_with fail
          refine (specGV G hG ad c _ (hrg.at_ hb)).mono ?_
          rintro e w1 ⟨rfl, hb1⟩
          obtain ⟨hb, hc, hz⟩ := box_next hb hc hz hb1
          go_wp2_with fail
          refine (hC _ (hrg.at_ hb)).mono ?_
          rintro e w2 ⟨rfl, hb2⟩
          obtain ⟨hb, hc, hz⟩ := box_next hb hc hz hb2
          clear hC
          go_wp2_with fail
          go_roundw
          case rel => exact ⟨k + 1, HK.out, by go_num, by rw [HA.out], hb, hc, hz⟩
          case measure => simp [intOf]; omega
        · have HA := Lib.hid (Sw.wsK_some hn hO)
          have hbk := (Sw.obK_some G k _ b hO).1
          have hb40 : b < 1099511627776 := by omega
          have hcl := Sw.cnt_le (s := b) (n := 9) (by omega) (by omega)
          rw [hO, show Sw.obI (some b) = (b : Int) from rfl, show (some b).isSome = true from rfl] at hC
          clear hk h512 hO hbk
          go_wp2_with fail
          refine (specGV G hG ad c _ (hrg.at_ hb)).mono ?_
          rintro e w1 ⟨rfl, hb1⟩
          obtain ⟨hb, hc, hz⟩ := box_next hb hc hz hb1
          go_wp2_with fail
          refine (hC _ (hrg.at_ hb)).mono ?_
          rintro e w2 ⟨rfl, hb2⟩
          obtain ⟨hb, hc, hz⟩ := box_next hb hc hz hb2
          clear hC
          go_wp2_with fail
          refine (l1Many b hb40 _).mono ?_
          rintro e w3 ⟨rfl, rfl⟩
          go_wp2_with fail
          all_goals
            go_roundw
            case rel => exact ⟨k + 1, HK.out, by go_num, val_i (by rw [HA.out]; omega), hb, hc, hz⟩
            case measure => simp [intOf]; omega
      · have hK := ob_eq_pow hk hlt
        have HV : Hid (Sw.wsK G k = Sw.wo G) := by show _ = _; rw [hK]; exact Sw.wsK_end G
        clear hk hK
        go_wp2_with fail
        go_ret
        exact ⟨ret_i (by rw [HF.out, HV.out]), hb⟩
end Go.Proofs.Ytnjfclfpjdbdnaa

