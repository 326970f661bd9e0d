/- RowsOf of the program and of the reference, each by its contract. No conditions. -/
import Derived.Test.YtooohgjmomhjoaaPress
import Derived.Test.YtooohgjmomhjoaaApp
import Derived.Test.YtooohgjmomhjoaaJoin
import Derived.Deep.RegionLaw
namespace Go.Proofs.Ytooohgjmomhjoaa
open Go.RowKit
/-- the rows so far -/
def rowsK (G : List Nat) (k : Nat) : Nat → Nat := fun j => if j < k then Sw.row G j else 0
theorem rowsK_zero (G : List Nat) (n : Nat) : Sw.toI (Sw.tab n (rowsK G 0)) = List.replicate n 0 := by
  apply Sw.gat_ext (by rw [toI_tab_len, List.length_replicate])
  intro k hk
  rw [toI_tab_len] at hk
  rw [gat_toI_tab _ hk]
  unfold Sw.gat rowsK; simp [hk]
theorem rowsK_succ (G : List Nat) (k : Nat) : (fun j => if j = k then Sw.row G k else rowsK G k j) = rowsK G (k + 1) := by
  funext j
  unfold rowsK
  by_cases h : j = k
  · subst h; rw [if_pos rfl, if_pos (by omega)]
  · rw [if_neg h]
    by_cases q : j < k
    · rw [if_pos q, if_pos (by omega)]
    · rw [if_neg q, if_neg (by omega)]
theorem rowsK_all (G : List Nat) (n : Nat) : Sw.tab n (rowsK G n) = Sw.tab n (Sw.row G) := Sw.tab_congr fun k hk => by unfold rowsK; rw [if_pos hk]
set_option maxHeartbeats 1000000 in
theorem implRowsOf (l : List Int) (A : Option Addr) (c : Nat) (hl : l.length ≤ 1099511627776) (w : World) (hr : RdI w w.heap.size A l) :
    Calls Try.prog 33 #[.agg #[.slice A l.length c]] w fun e w' => ∃ v, e = .returned v ∧ OwnI w' w.heap.size w'.heap.size v (Sw.toI (Sw.vRows l)) ∧ Below w.heap.size w w' := by
  have hr1 := hr.at_ (below1 (.cells #[.slice A l.length c] 25))
  rcases Sw.gvB_cases l with hv | ⟨G, rfl, hG⟩
  · have HF := Lib.hid (Sw.vRows_no hv)
    go_enter Try.func33, Try.ntmps33
    go_wp2_with fail
    refine (implGraphValid_no l A c hl hv _ hr1).mono ?_
    rintro e w1 ⟨rfl, hb⟩
    obtain ⟨hb, hc, hz⟩ := box_after hb
    go_wp2_with fail
    go_ret
    exact ⟨_, rfl, by rw [HF.out]; exact OwnI.nil _, hb⟩
  · have HF := Lib.hid (Sw.vRows_yes hG)
    obtain ⟨ad, rfl, hrg⟩ := RdG.of hG hr
    have hn := hG.le
    obtain ⟨i0, hi, hz0, hz1, hz2⟩ := info_parts info_int
    rw [Sw.toI_len]
    go_enter Try.func33, Try.ntmps33
    go_wp2_with fail
    refine (implGV G hG ad c _ (hrg.at_ (below1 _))).mono ?_
    rintro e w1 ⟨rfl, hb⟩
    obtain ⟨hb, hc, hz⟩ := box_after hb
    go_wp2_with (at_make; refine wpList_make_full _ rfl _ _ 23 rfl w1.heap.size 3 i0 (.int .i64 0) 1 Try.underlying23 hi hz0 hz1 .i64 .i64 _ _ G.length rfl rfl rfl rfl (by rw [hz2]; omega) (by unfold maxLen; omega) (Nat.le_refl _) ?_; intro w2 hown hgrow)
    have hO : OwnF w2 w1.heap.size w2.heap.size (.slice (some ⟨w1.heap.size, 0, none⟩) G.length G.length) G.length (rowsK G 0) := by
      unfold OwnF
      rw [rowsK_zero]; exact made_ints hown
    have hb2 := below_of_grown (B := w1.heap.size) hgrow (Nat.le_refl _) (fun g h => by cases h)
    obtain ⟨hb, hc, hz1'⟩ := box_next hb hc hz hb2
    clear hown hgrow hb2 hi hz0 hz1 hz2
    go_loopw [14] (fun i wr => ∃ k : Nat, k ≤ G.length ∧ i = .int .i64 k ∧ OwnF wr w1.heap.size wr.heap.size (.slice (some ⟨w1.heap.size, 0, none⟩) G.length G.length) G.length (rowsK G k) ∧ Below w.heap.size w wr ∧ wr.cell? ⟨w.heap.size, 0, none⟩ = some (.slice (some ad) G.length c) ∧ w.heap.size < wr.heap.size) (fun i _ => (G.length - intOf i).toNat)
    case atStart => exact ⟨0, by omega, rfl, hO, hb, hc, hz1'⟩
    case round =>
      obtain ⟨k, hk, rfl, hO, hb, hc, hz'⟩ := hrel
      by_cases hlt : k < G.length
      · have hd : decide ((k : Int) < (G.length : Int)) = true := by rw [decide_eq_true_eq]; omega
        have hC := fun W => pressChange G hG ad c k hlt W
        have HO := Lib.hid hO
        clear hO
        go_wp2_with fail
        refine (hC _ (hrg.at_ hb)).mono ?_
        rintro e w3 ⟨rfl, hb3⟩
        have hO3 := (OwnI.below HO.out hb3 (Nat.le_refl _)).up
        obtain ⟨hb, hc, hz'⟩ := box_next hb hc hz' hb3
        obtain ⟨g', c', e, _, _, hcell⟩ := OwnF.form hO3 (by omega)
        injection e with e1 _ ecap
        clear ecap
        injection e1 with e1
        injection e1 with e1 _ _
        subst e1
        obtain ⟨hck, hfk⟩ := hcell k hlt
        have hset := OwnF.set hO3 k (Sw.row G k)
        rw [rowsK_succ] at hset
        have hbs := hb.trans (below_of_grown (B := w.heap.size) hset.2 hb.size (fun g h => by injection h with h; omega))
        have hcs := hset.2.cell hc (by intro e; injection e with e; simp at e; omega)
        have HS := Lib.hid hset
        have HB := Lib.hid hbs
        have HC := Lib.hid hcs
        clear hset hcell hO3 hbs hcs
        go_wp2_with fail
        go_roundw
        case rel => exact ⟨k + 1, by omega, by go_num, OwnI.up HS.out.1, HB.out, HC.out, by simpa using hz'⟩
        case measure => simp [intOf]; omega
      · have : k = G.length := by omega
        subst this
        have hO' : OwnI wr w1.heap.size wr.heap.size (.slice (some ⟨w1.heap.size, 0, none⟩) G.length G.length) (Sw.toI (Sw.vRows (Sw.toI G))) := by
          rw [HF.out, ← rowsK_all]; exact hO
        have HO := Lib.hid (hO'.lo_ (lo' := w.heap.size) (by omega))
        clear hO hO'
        go_wp2_with fail
        go_ret
        exact ⟨_, rfl, HO.out, hb⟩
theorem ints_tab_succ' (n : Nat) (f : Nat → Nat) : Sw.tab (n + 1) f = Sw.tab n f ++ [f n] := Sw.tab_succ n f
/-- an empty literal behind a box -/
theorem lit_new' (w : World) (o : Obj) : OwnI ((w.alloc o).alloc (.cells #[] 3)) (w.heap.size + 1) ((w.alloc o).alloc (.cells #[] 3)).heap.size (.slice (some ⟨w.heap.size + 1, 0, none⟩) 0 0) [] := by
  have := World.ownsRow_lit (w.alloc o) (e := 3) (base := w.heap.size + 1) (size := 1) #[] 0 (by simp) (by unfold maxLen; omega) rfl
  simp only [World.size_alloc] at this
  exact OwnI.own this
set_option maxHeartbeats 2000000 in
theorem specRowsOf (l : List Int) (A : Option Addr) (c : Nat) (hl : l.length ≤ 1099511627776) (w : World) (hr : RdI w w.heap.size A l) :
    Calls Try.prog 36 #[.agg #[.slice A l.length c]] w fun e w' => ∃ v, e = .returned v ∧ OwnI w' w.heap.size w'.heap.size v (Sw.toI (Sw.vRows l)) ∧ Below w.heap.size w w' := by
  have hr1 := hr.at_ (below1 (.cells #[.slice A l.length c] 25))
  have HLit := Lib.hid (lit_new' w (.cells #[.slice A l.length c] 25))
  have hb2 := below2 (w := w) (.cells #[.slice A l.length c] 25) (.cells #[] 3)
  have hc2 : ((w.alloc (.cells #[.slice A l.length c] 25)).alloc (.cells #[] 3)).cell? ⟨w.heap.size, 0, none⟩ = some (.slice A l.length c) := by simp [go_sem]
  rcases Sw.gvB_cases l with hv | ⟨G, rfl, hG⟩
  · have HF := Lib.hid (Sw.vRows_no hv)
    have hrb := hr.at_ hb2
    have HB2 := Lib.hid hb2
    have HC2 := Lib.hid hc2
    clear hb2 hc2
    by_cases h0 : 0 < l.length
    · have hd : decide ((0 : Int) < (l.length : Int)) = true := by rw [decide_eq_true_eq]; omega
      go_enter Try.func36, Try.ntmps36
      go_wp2_with fail
      refine wp_loop_rounds 1 ?_
      rw [rounds_succ]
      go_wp2_with fail
      refine (specGraphValid_no l A c hl hv _ hrb).mono ?_
      rintro e w1 ⟨rfl, hb⟩
      go_wp2_with fail
      go_ret
      have h1 := (HLit.out.below hb (Nat.le_refl _)).up.lo_ (lo' := w.heap.size) (by omega)
      exact ⟨_, rfl, by rw [HF.out]; exact h1, HB2.out.trans (hb.mono (by simp; omega))⟩
    · have hd : decide ((0 : Int) < (l.length : Int)) = false := by rw [decide_eq_false_iff_not]; omega
      go_enter Try.func36, Try.ntmps36
      go_wp2_with fail
      refine wp_loop_rounds 1 ?_
      rw [rounds_succ]
      go_wp2_with fail
      go_ret
      have h1 := HLit.out.lo_ (lo' := w.heap.size) (by omega)
      exact ⟨_, rfl, by rw [HF.out]; exact h1, HB2.out⟩
  · have HF := Lib.hid (Sw.vRows_yes hG)
    obtain ⟨ad, rfl, hrg⟩ := RdG.of hG hr
    have hn := hG.le
    obtain ⟨i0, hi, hz0, hz1, hz2⟩ := info_parts info_int
    rw [Sw.toI_len] at hc2 HLit hb2
    rw [Sw.toI_len]
    have hz2' : w.heap.size < ((w.alloc (.cells #[.slice (some ad) G.length c] 25)).alloc (.cells #[] 3)).heap.size := by simp; omega
    have HB2 := Lib.hid hb2
    have HC2 := Lib.hid hc2
    have HZ2 := Lib.hid hz2'
    clear hb2 hc2 hz2'
    go_enter Try.func36, Try.ntmps36
    go_wp2_with fail
    go_loopw [3, 4] (fun q i wr => ∃ k : Nat, k ≤ G.length ∧ i = .int .i64 k ∧ ∃ (A : Option Addr) (c' : Nat), q = .slice A k c' ∧ OwnI wr (w.heap.size + 1) wr.heap.size (.slice A k c') (Sw.toI (Sw.tab k (Sw.row G))) ∧ Below w.heap.size w wr ∧ wr.cell? ⟨w.heap.size, 0, none⟩ = some (.slice (some ad) G.length c) ∧ w.heap.size < wr.heap.size) (fun _ i _ => (G.length - intOf i).toNat)
    case atStart => exact ⟨0, Nat.zero_le _, rfl, some ⟨w.heap.size + 1, 0, none⟩, 0, rfl, HLit.out, HB2.out, HC2.out, HZ2.out⟩
    case round =>
      obtain ⟨k, hk, rfl, A, c', rfl, hO, hb, hc, hz⟩ := hrel
      by_cases hlt : k < G.length
      · have hd : decide ((k : Int) < (G.length : Int)) = true := by rw [decide_eq_true_eq]; omega
        obtain ⟨L, hL⟩ : ∃ L, L = Sw.tab k (Sw.row G) := ⟨_, rfl⟩
        rw [← hL] at hO
        have HNL : Hid (k = L.length) := by show _ = _; rw [hL, Sw.tab_len]
        have HO := Lib.hid hO
        have HA : Hid (Sw.tab (k + 1) (Sw.row G) = L ++ [Sw.row G k]) := by show _ = _; rw [Sw.tab_succ, hL]
        clear hO hL
        go_wp2_with fail
        refine (specGV G hG ad c _ (hrg.at_ hb)).mono ?_
        rintro e w1 ⟨rfl, hb1⟩
        have hO2 := (HO.out.below hb1 (Nat.le_refl _)).up
        obtain ⟨hb, hc, hz⟩ := box_next hb hc hz hb1
        have hO3 := hO2.1
        rw [Sw.toI_len, ← HNL.out] at hO3
        have HO3 := Lib.hid hO3
        have hcell := (hrg.below hb).cell k hlt
        have hpp : (2 : Int) ^ k ≤ 512 := pow9 (by omega)
        have hpp1 := pow1 k
        have hnb := Sw.pow_le9 hn
        have hnl := hG.lt k
        have hw1 : IntKind.i64.wrap ((2 : Int) ^ k) = 2 ^ k := IntWalk.i64_in _ (by omega)
        have hw2 : IntKind.i64.wrap (((Sw.nb G k : Nat) : Int) + 2 ^ k) = (Sw.row G k : Nat) := by
          rw [IntWalk.i64_in _ (by omega), ← Sw.row_add hG, pow_nat]; omega
        clear hnb hnl hO2 hO3 HO
        go_wp2_with fail
        go_region_law (go_loud (refine step_append_lies _ rfl _ _ 23 rfl (w.heap.size + 1) 3 i0 (.int .i64 0) 1 8 Try.underlying23 hi hz0 hz1 hz2 rfl (by decide) (.slice A k c') k (ints (Sw.toI L)) rfl (by exact HO3.out.alloc _) ⟨w1.heap.size, 0, none⟩ 1 1 [.int .i64 (Sw.row G k : Nat)] rfl rfl (by exact World.news_of_block (heap_alloc_new w1 _)) (by intro u hu; simp at hu; subst hu; rfl) (by decide) (by unfold maxLen; omega) (by omega) (by simp; omega) _ rfl ?_; intro g cp w2 hown2 hgr2 hat2 hlt2; obtain ⟨hO4, hb4, hc4, hz4⟩ := append_step hb hc hz HO3.out HNL.out hown2 (grown_undrew hgr2)))
        all_goals
          have HO4 := Lib.hid hO4
          clear hO4 hown2 hgr2 hat2 hw1 hw2
          go_wp2_with fail
          go_roundw
          case rel => exact ⟨k + 1, by omega, by go_num, some ⟨g, 0, none⟩, cp, rfl, by rw [HA.out]; exact HO4.out, hb4, hc4, hz4⟩
          case measure => simp [intOf]; omega
      · have : k = G.length := by omega
        subst this
        have HO := Lib.hid hO
        clear hO
        go_wp2_with fail
        go_ret
        refine ⟨_, rfl, ?_, hb⟩
        have h1 := HO.out.lo_ (lo' := w.heap.size) (by omega)
        rw [HF.out]; exact h1
end Go.Proofs.Ytooohgjmomhjoaa

