/- FnWhole: a line more never takes apart. No conditions. -/
import Derived.Test.YtlfigdpgdkbknaaLw
import Derived.Test.YtlfigdpgdkbknaaLn
import Derived.Test.YtlfigdpgdkbknaaMath8
import Derived.Deep.RegionHeld3
import Derived.Deep.DeepCutAuto
import Derived.Deep.OwnRows
namespace Go.Proofs.Ytlfigdpgdkbknaa
open Go.ChangeShapes Go.WideShapes Go.ChangeAt Go.RowKit
theorem specWholeG (G : List Nat) (hG : Sw.GVN G) (ad : Addr) (c : Nat) (w : World) (hr : RdG w w.heap.size ad G) : Calls Try.prog 17 #[.agg #[.slice (some ad) G.length c]] w fun e w' => e = .returned (.bool (decide (Sw.pt G 0 = 2 ^ G.length - 1))) ∧ Below w.heap.size w w' := by
  have h := specWhole (Sw.toI G) (some ad) c (by rw [Sw.toI_len]; have := hG.le; omega) w hr.toI
  rw [Sw.toI_len, Sw.vWhole_yes hG] at h; exact h
/-- a box at b with a valid graph behind it -/
def Bg (W : World) (b : Nat) (ad : Addr) (n c : Nat) (G : List Nat) : Prop := W.cell? ⟨b, 0, none⟩ = some (.slice (some ad) n c) ∧ b < W.heap.size ∧ RdG W W.heap.size ad G
theorem Bg.start {W : World} {ad : Addr} {n c : Nat} {G : List Nat} (hr : RdG W W.heap.size ad G) (t : TypeId) : Bg (W.alloc (.cells #[.slice (some ad) n c] t)) W.heap.size ad n c G := ⟨cell_new _ _ _, by simp, hr.at_ (below1 _)⟩
theorem Bg.next {W W' : World} {b n c : Nat} {ad : Addr} {G : List Nat} (h : Bg W b ad n c G) (hb : Below W.heap.size W W') : Bg W' b ad n c G :=
  ⟨(hb.cell (p := ⟨b, 0, none⟩) h.2.1).trans h.1, Nat.lt_of_lt_of_le h.2.1 hb.size, h.2.2.at_ hb⟩
/-- a new row of zeros reads as the graph without lines -/
theorem zero_rdG (w : World) (n : Nat) (h1 : 1 ≤ n) (h9 : n ≤ 9) : RdG (w.alloc (.cells (madeCells #[.int .i64 0] n) 3)) (w.alloc (.cells (madeCells #[.int .i64 0] n) 3)).heap.size ⟨w.heap.size, 0, none⟩ (List.replicate n 0) := by
  have hs : (madeCells #[Value.int .i64 0] n).size = n * 1 := by rw [← Array.length_toList, toList_madeCells_one, List.length_replicate, Nat.mul_one]
  have := World.ownsRow_lit w (e := 3) (base := w.heap.size) (size := 1) (madeCells #[Value.int .i64 0] n) n (Nat.le_refl _) (by unfold maxLen; omega) hs
  have e : (madeCells #[Value.int .i64 0] n).toList = ints (Sw.toI (List.replicate n 0)) := by
    rw [toList_madeCells_one, Sw.toI_zeros]; unfold ints; rw [List.map_replicate]
  rw [e] at this
  have hO : OwnI (w.alloc (.cells (madeCells #[.int .i64 0] n) 3)) w.heap.size _ (.slice (some ⟨w.heap.size, 0, none⟩) n n) (Sw.toI (List.replicate n 0)) := OwnI.own (by rw [Sw.toI_len, List.length_replicate]; exact this)
  obtain ⟨A', c', e1, hr⟩ := hO.rd
  injection e1 with e1 _ _
  subst e1
  obtain ⟨ad, e2, hg⟩ := RdG.of (Sw.zeros_valid h1 h9) hr
  injection e2 with e2
  subst e2
  exact hg
set_option maxRecDepth 100000 in
set_option maxHeartbeats 4000000 in
theorem lawWhole (A : Option Addr) (n c : Nat) (hm : n ≤ maxLen) (hc : n ≤ c) (w : World) (hB : RdB w w.heap.size A n) :
    Calls Try.prog 4 #[.slice A n c] w fun e w' => e = .returned (.bool true) ∧ Below w.heap.size w w' := by
  unfold maxLen at hm
  by_cases hlen : (n : Int) ≤ 1048576
  · go_enter Try.func4, Try.ntmps4
    go_wp2_with fail
    refine (drawWhole A n c (by omega) hc _ hB).mono ?_
    rintro e w1 ⟨A1, c1, l, rfl, h10, hr, hb⟩
    have HL := Lib.hid (Lw.start (c1 := c1) hr hb 25)
    clear hr hb
    rcases Sw.gvB_cases l with hv | ⟨G, rfl, hG⟩
    · have hI := fun W h => implWhole l A1 c1 (by omega) W h
      have hS := fun W h => specWhole l A1 c1 (by omega) W h
      have hV := Sw.vWhole_no hv
      rw [hV] at hI hS
      clear hV
      obtain ⟨_, hcb, hzb, hrb⟩ := HL.out
      go_wp2_with fail
      refine (hI _ hrb).mono ?_
      rintro e w15 ⟨rfl, hb15⟩
      have HL := Lib.hid (HL.out.next hb15)
      clear hcb hzb hrb hb15
      obtain ⟨_, hcb, hzb, hrb⟩ := HL.out
      go_wp2_with fail
      refine (hS _ hrb).mono ?_
      rintro e w16 ⟨rfl, hb16⟩
      have HL := Lib.hid (HL.out.next hb16)
      clear hcb hzb hrb hb16
      obtain ⟨_, hcb, hzb, hrb⟩ := HL.out
      go_wp2_with fail
      refine (specGraphValid_no l A1 c1 (by omega) hv _ hrb).mono ?_
      rintro e w17 ⟨rfl, hb17⟩
      have HL := Lib.hid (HL.out.next hb17)
      clear hcb hzb hrb hb17
      obtain ⟨_, hcb, hzb, hrb⟩ := HL.out
      go_wp2_with fail
      refine (alive _).mono ?_
      rintro e w18 ⟨rfl, hb18⟩
      have HL := Lib.hid (HL.out.next hb18)
      clear hcb hzb hrb hb18
      obtain ⟨_, hcb, hzb, hrb⟩ := HL.out
      go_wp2_with fail
      go_ret
      exact ⟨rfl, HL.out.1⟩
    · obtain ⟨ad, rfl, hL⟩ := HL.out.valid hG
      have HL := Lib.hid hL
      have hn9 := hG.le
      have hn1 := hG.pos
      clear hL
      rw [Sw.toI_len] at HL h10 ⊢
      have hI := fun W h => implWholeG G hG ad c1 W h
      have hS := fun W h => specWholeG G hG ad c1 W h
      have hSV := fun W h => specGV G hG ad c1 W h
      have HZ : Hid (∀ A c W, RdG W W.heap.size A (List.replicate G.length 0) → Calls Try.prog 16 #[.agg #[.slice (some A) G.length c]] W fun e w' => e = .returned (.bool (decide (G.length = 1))) ∧ Below W.heap.size W w') := by
        intro A c W h
        have q := implWholeG _ (Sw.zeros_valid hn1 hn9) A c W h
        rw [List.length_replicate] at q
        have e := Sw.whole_zeros hn1
        rw [List.length_replicate] at e
        rw [decide_eq_decide.2 e] at q
        exact q
      have hmk : ∀ W, (Instr.makeSlice 23 (.int .i64 (G.length : Int)) (.int .i64 (G.length : Int))).run Try.prog W = .ok (.slice (some ⟨W.heap.size, 0, none⟩) G.length G.length) (W.alloc (.cells (madeCells #[.int .i64 0] G.length) 3)) := run_make_row' (P := Try.prog) 23 3 (.int .i64 0) 8 Try.underlying23 info_int rfl .i64 .i64 G.length (by omega) (by omega)
      obtain ⟨D, hD⟩ : ∃ D, D = decide (Sw.pt G 0 = 2 ^ G.length - 1) := ⟨_, rfl⟩
      rw [← hD] at hI hS
      have HDD := Lib.hid hD
      clear hD
      obtain ⟨m, hm⟩ : ∃ m, G.length = m + 1 := ⟨G.length - 1, by omega⟩
      have hsub : (G.length : Int) - 1 = (m : Int) := by omega
      have HM1 := Lib.hid hm
      clear hm
      obtain ⟨_, hcb, hzb, hrb⟩ := HL.out
      go_wp2_with fail
      refine (hI _ hrb).mono ?_
      rintro e w19 ⟨rfl, hb19⟩
      have HL := Lib.hid (HL.out.next hb19)
      clear hcb hzb hrb hb19
      obtain ⟨_, hcb, hzb, hrb⟩ := HL.out
      go_wp2_with fail
      refine (hS _ hrb).mono ?_
      rintro e w20 ⟨rfl, hb20⟩
      have HL := Lib.hid (HL.out.next hb20)
      clear hcb hzb hrb hb20
      obtain ⟨_, hcb, hzb, hrb⟩ := HL.out
      go_wp2_with fail
      refine (hSV _ hrb).mono ?_
      rintro e w3 ⟨rfl, hb3⟩
      have HL := Lib.hid (HL.out.next hb3)
      clear hcb hzb hrb hb3 hI hS hSV
      obtain ⟨_, hcb, hzb, hrb⟩ := HL.out
      by_cases hm0 : m = 0
      · subst hm0
        have hm : G.length = 0 + 1 := HM1.out
        have hDt : D = true := by
          rw [HDD.out, decide_eq_true_eq, hm]
          have h1 := Sw.pt_lt hG hn1
          have h2 := Sw.pt_self hG hn1
          rw [hm] at h1
          cases q : Sw.pt G 0 with
          | zero => rw [q] at h2; simp at h2
          | succ x => omega
        subst hDt
        have hB : Sw.vLineB (Sw.toI G) 0 0 = false := by
          rcases Sw.vLineB_cases (Sw.toI G) 0 0 with h | ⟨K, a, b, _, _, e1, e2, _, _, hab⟩
          · exact h
          · omega
        have hN := Sw.vLine_no (on := true) hB
        have hC := fun W h => implLineSet (Sw.toI G) (some ad) c1 0 0 true (by rw [Sw.toI_len]; omega) W h
        simp only [hB, hN, Sw.toI_len] at hC
        have he1 : ((G.length : Int) == 1) = true := by rw [hm]; rfl
        have HZ2 := HZ
        rw [decide_eq_true (by omega : G.length = 1)] at HZ2
        clear HZ hB hN HDD
        have HZ := HZ2
        have hsub2 : (G.length : Int) - 1 = 0 := by omega
        clear HZ2 hsub hm
        go_wp2_with fail
        refine (hC _ hrb.toI).mono ?_
        rintro e w4 ⟨v4, rfl, hO4, hb4⟩
        obtain ⟨A4, c4, rfl, _⟩ := hO4.rd
        have HL := Lib.hid ((HL.out.next hb4).next (below1 (.cells #[.slice A4 0 c4] 25)))
        clear hcb hzb hrb hb4 hO4
        obtain ⟨_, hcb, hzb, hrb⟩ := HL.out
        go_wp2_with fail
        obtain ⟨w4B, hw4B⟩ : ∃ W, W = w4.alloc (.cells #[.slice A4 0 c4] 25) := ⟨_, rfl⟩
        simp only [← hw4B] at *
        have KD := Lib.hid (HL.out.next (bdr (Below.refl _ _) 1))
        refine wp_region_held_drew (S := fun w' => w'.cell? ⟨w1.heap.size, 0, none⟩ = some (.slice (some ad) G.length c1)) (by kernel_rfl) hcb (fun hHeld => ?_)
        refine wpAnyH_take (i := 0) (v := (.bool true)) rfl (by kernel_rfl) (by kernel_rfl) (by kernel_rfl) (fun _ _ _ h => h) (Or.inl ⟨by kernel_rfl, fun w hSw => by ((try dsimp only at hSw); go_simp)⟩) (by assumption) ?_
        refine wpAnyH_take (i := 1) (v := (.bool false)) rfl (by kernel_rfl) (by kernel_rfl) (by kernel_rfl) (fun _ _ _ h => h) (Or.inl ⟨by kernel_rfl, fun w hSw => by ((try dsimp only at hSw); go_simp)⟩) (by assumption) ?_
        refine wpAnyH_take (i := 2) (v := (.bool false)) rfl (by kernel_rfl) (by kernel_rfl) (by kernel_rfl) (fun _ _ _ h => h) (Or.inl ⟨by kernel_rfl, fun w hSw => by ((try dsimp only at hSw); go_simp)⟩) (by assumption) ?_
        refine wpAnyH_take (i := 3) (v := (.bool false)) rfl (by kernel_rfl) (by kernel_rfl) (by kernel_rfl) (fun _ _ _ h => h) (Or.inl ⟨by kernel_rfl, fun w hSw => by ((try dsimp only at hSw); go_simp)⟩) (by assumption) ?_
        refine wpAnyH_take (i := 4) (v := (.bool true)) rfl (by kernel_rfl) (by kernel_rfl) (by kernel_rfl) (fun _ _ _ h => h) (Or.inl ⟨by kernel_rfl, fun w hSw => by ((try dsimp only at hSw); go_simp)⟩) (by assumption) ?_
        refine wpAnyH_take (i := 5) (v := (.bool true)) rfl (by kernel_rfl) (by kernel_rfl) (by kernel_rfl) (fun _ _ _ h => h) (Or.inl ⟨by kernel_rfl, fun w hSw => by ((try dsimp only at hSw); go_simp)⟩) (by assumption) ?_
        refine wpAnyH_take (i := 6) (v := (.bool true)) rfl (by kernel_rfl) (by kernel_rfl) (by kernel_rfl) (fun _ _ _ h => h) (Or.inl ⟨by kernel_rfl, fun w hSw => by ((try dsimp only at hSw); go_simp)⟩) (by assumption) ?_
        refine wpAnyH_take (i := 7) (v := undef) rfl (by kernel_rfl) (by kernel_rfl) (by kernel_rfl) (fun _ _ _ h => h) (Or.inr ⟨by kernel_rfl, rfl⟩) (by assumption) ?_
        refine wpAnyH_take (i := 8) (v := undef) rfl (by kernel_rfl) (by kernel_rfl) (by kernel_rfl) (fun _ _ _ h => h) (Or.inr ⟨by kernel_rfl, rfl⟩) (by assumption) ?_
        refine wpAnyH_take (i := 9) (v := (.bool true)) rfl (by kernel_rfl) (by kernel_rfl) (by kernel_rfl) (fun _ _ _ h => h) (Or.inl ⟨by kernel_rfl, fun w hSw => by ((try dsimp only at hSw); go_simp)⟩) (by assumption) ?_
        refine wpAnyH_take (i := 10) (v := (.bool true)) rfl (by kernel_rfl) (by kernel_rfl) (by kernel_rfl) (fun _ _ _ h => h) (Or.inl ⟨by kernel_rfl, fun w hSw => by ((try dsimp only at hSw); go_simp)⟩) (by assumption) ?_
        refine wpAnyH_take (i := 11) (v := (.pointer (some ⟨w1.heap.size, 0, none⟩))) rfl (by kernel_rfl) (by kernel_rfl) (by kernel_rfl) (fun _ _ _ h => h) (Or.inl ⟨by kernel_rfl, fun w hSw => by ((try dsimp only at hSw); go_simp)⟩) (by assumption) ?_
        refine wpAnyH_take (i := 12) (v := (.slice (some ad) G.length c1)) rfl (by kernel_rfl) (by kernel_rfl) (by kernel_rfl) (fun _ _ _ h => h) (Or.inl ⟨by kernel_rfl, fun w hSw => by ((try dsimp only at hSw); go_simp)⟩) (by assumption) ?_
        refine wpAnyH_take (i := 13) (v := (.int .i64 (G.length : Nat))) rfl (by kernel_rfl) (by kernel_rfl) (by kernel_rfl) (fun _ _ _ h => h) (Or.inl ⟨by kernel_rfl, fun w hSw => by ((try dsimp only at hSw); go_simp)⟩) (by assumption) ?_
        refine wpAnyH_take (i := 17) (v := (.pointer (some ⟨w1.heap.size, 0, none⟩))) rfl (by kernel_rfl) (by kernel_rfl) (by kernel_rfl) (fun _ _ _ h => h) (Or.inl ⟨by kernel_rfl, fun w hSw => by ((try dsimp only at hSw); go_simp)⟩) (by assumption) ?_
        refine wpAnyH_take (i := 18) (v := (.slice (some ad) G.length c1)) rfl (by kernel_rfl) (by kernel_rfl) (by kernel_rfl) (fun _ _ _ h => h) (Or.inl ⟨by kernel_rfl, fun w hSw => by ((try dsimp only at hSw); go_simp)⟩) (by assumption) ?_
        refine wpAnyH_take (i := 19) (v := (.int .i64 (G.length : Nat))) rfl (by kernel_rfl) (by kernel_rfl) (by kernel_rfl) (fun _ _ _ h => h) (Or.inl ⟨by kernel_rfl, fun w hSw => by ((try dsimp only at hSw); go_simp)⟩) (by assumption) ?_
        refine wpAnyH_take (i := 20) (v := (.bool true)) rfl (by kernel_rfl) (by kernel_rfl) (by kernel_rfl) (fun _ _ _ h => h) (Or.inl ⟨by kernel_rfl, fun w hSw => by ((try dsimp only at hSw); go_simp)⟩) (by assumption) ?_
        have HM := Lib.hid (KD.out.next (below1 (w := w4B.drew) (.cells (madeCells #[.int .i64 0] G.length) 3)))
        have hS2 := HM.out.2.1
        have hrz := zero_rdG w4B.drew G.length hn1 hn9
        refine wpAnyH_ready (rs := [14]) (by kernel_rfl) (by simp) ?_
        refine AllReadyH.cons rfl (fun K0 hK0 => ?_) AllReadyH.nil
        go_simp
        refine hK0.out _ _ hS2 (fun hHeld2 => ?_)
        clear hK0 K0
        try simp only [Act.put, List.setIfInBounds_toArray, List.set_cons_zero, List.set_cons_succ]
        refine wpAnyH_take (i := 15) (v := (.agg #[.slice (some ⟨w4B.drew.heap.size, 0, none⟩) G.length G.length])) rfl (by kernel_rfl) (by kernel_rfl) (by kernel_rfl) (fun _ _ _ h => h) (Or.inl ⟨by kernel_rfl, fun w hSw => by ((try dsimp only at hSw); go_simp)⟩) (by assumption) ?_
        refine wpAnyH_ready (rs := [16]) (by kernel_rfl) (by simp) ?_
        refine AllReadyH.cons rfl (fun K0 hK0 => ?_) AllReadyH.nil
        go_simp
        refine (HZ.out _ _ _ (by exact hrz)).mono ?_
        rintro e Y2 ⟨rfl, z2⟩
        have K2 := Lib.hid (HM.out.next (by exact z2))
        have hS4 := K2.out.2.1
        try go_wp2_with fail
        refine hK0.out _ _ hS4 (fun hHeld2 => ?_)
        clear hK0 K0
        try simp only [Act.put, List.setIfInBounds_toArray, List.set_cons_zero, List.set_cons_succ]
        refine wpAnyH_take (i := 21) (v := (.bool true)) rfl (by kernel_rfl) (by kernel_rfl) (by kernel_rfl) (fun _ _ _ h => h) (Or.inl ⟨by kernel_rfl, fun w hSw => by ((try dsimp only at hSw); go_simp)⟩) (by assumption) ?_
        refine wpAnyH_take (i := 22) (v := (.bool true)) rfl (by kernel_rfl) (by kernel_rfl) (by kernel_rfl) (fun _ _ _ h => h) (Or.inl ⟨by kernel_rfl, fun w hSw => by ((try dsimp only at hSw); go_simp)⟩) (by assumption) ?_
        refine wpAnyH_ready (rs := [23]) (by kernel_rfl) (by simp) ?_
        refine AllReadyH.cons rfl (fun K0 hK0 => ?_) AllReadyH.nil
        go_simp
        refine hK0.out _ _ hS4 (fun hHeld2 => ?_)
        clear hK0 K0
        refine wpAnyH_done (by kernel_rfl) ?_ _
        go_wp2_with fail
        go_ret
        exact ⟨rfl, K2.out.1⟩
      · have h0 : 0 < G.length := hn1
        have hmG : m < G.length := by have := HM1.out; omega
        have hC := fun W h => implLineG G hG ad c1 0 m true h0 hmG (fun e => hm0 e.symm) W h
        have hK := Sw.lineG_valid (on := true) hG h0 hmG (fun e => hm0 e.symm)
        have hKl := Sw.lineG_len G 0 m true
        have hKw : D = true → Sw.pt (Sw.lineG G 0 m true) 0 = 2 ^ (Sw.lineG G 0 m true).length - 1 := fun h => Sw.whole_more hG h0 hmG (fun e => hm0 e.symm) (by rw [HDD.out] at h; exact of_decide_eq_true h)
        obtain ⟨K, hKe⟩ : ∃ K, K = Sw.lineG G 0 m true := ⟨_, rfl⟩
        rw [← hKe] at hC hK hKl hKw
        have hWK := fun A c W h => implWholeG K hK A c W h
        have HKW := Lib.hid hKw
        rw [hKl] at hWK
        have he1 : ((G.length : Int) == 1) = false := by have := HM1.out; rw [beq_eq_false_iff_ne]; omega
        have HZ2 := HZ
        rw [decide_eq_false (by have := HM1.out; omega : ¬ G.length = 1)] at HZ2
        clear HZ HDD hKe hKw
        have HZ := HZ2
        have HWK := Lib.hid hWK
        have HKL := Lib.hid hKl
        clear HZ2 hWK hKl
        go_wp2_with fail
        refine (hC _ hrb).mono ?_
        rintro e w4 ⟨ad2, c2, rfl, hr4, hb4⟩
        have HL := Lib.hid ((HL.out.next hb4).next (below1 (.cells #[.slice (some ad2) G.length c2] 25)))
        have HX := Lib.hid (Bg.start (n := G.length) (c := c2) hr4 25)
        clear hcb hzb hrb hb4 hr4 hC
        obtain ⟨_, hcb, hzb, hrb⟩ := HL.out
        obtain ⟨hcx, hzx, hrx⟩ := HX.out
        go_wp2_with fail
        cases D
        · clear hcx hzx hrx HX
          obtain ⟨w4B, hw4B⟩ : ∃ W, W = w4.alloc (.cells #[.slice (some ad2) G.length c2] 25) := ⟨_, rfl⟩
          simp only [← hw4B] at *
          have KD := Lib.hid (HL.out.next (bdr (Below.refl _ _) 1))
          refine wp_region_held_drew (S := fun w' => w'.cell? ⟨w1.heap.size, 0, none⟩ = some (.slice (some ad) G.length c1)) (by kernel_rfl) hcb (fun hHeld => ?_)
          refine wpAnyH_take (i := 0) (v := (.bool false)) rfl (by kernel_rfl) (by kernel_rfl) (by kernel_rfl) (fun _ _ _ h => h) (Or.inl ⟨by kernel_rfl, fun w hSw => by ((try dsimp only at hSw); go_simp)⟩) (by assumption) ?_
          refine wpAnyH_take (i := 1) (v := (.bool true)) rfl (by kernel_rfl) (by kernel_rfl) (by kernel_rfl) (fun _ _ _ h => h) (Or.inl ⟨by kernel_rfl, fun w hSw => by ((try dsimp only at hSw); go_simp)⟩) (by assumption) ?_
          refine wpAnyH_take (i := 2) (v := (.bool true)) rfl (by kernel_rfl) (by kernel_rfl) (by kernel_rfl) (fun _ _ _ h => h) (Or.inl ⟨by kernel_rfl, fun w hSw => by ((try dsimp only at hSw); go_simp)⟩) (by assumption) ?_
          refine wpAnyH_take (i := 3) (v := undef) rfl (by kernel_rfl) (by kernel_rfl) (by kernel_rfl) (fun _ _ _ h => h) (Or.inr ⟨by kernel_rfl, rfl⟩) (by assumption) ?_
          refine wpAnyH_take (i := 4) (v := undef) rfl (by kernel_rfl) (by kernel_rfl) (by kernel_rfl) (fun _ _ _ h => h) (Or.inr ⟨by kernel_rfl, rfl⟩) (by assumption) ?_
          refine wpAnyH_take (i := 5) (v := (.bool true)) rfl (by kernel_rfl) (by kernel_rfl) (by kernel_rfl) (fun _ _ _ h => h) (Or.inl ⟨by kernel_rfl, fun w hSw => by ((try dsimp only at hSw); go_simp)⟩) (by assumption) ?_
          refine wpAnyH_take (i := 6) (v := (.bool true)) rfl (by kernel_rfl) (by kernel_rfl) (by kernel_rfl) (fun _ _ _ h => h) (Or.inl ⟨by kernel_rfl, fun w hSw => by ((try dsimp only at hSw); go_simp)⟩) (by assumption) ?_
          refine wpAnyH_take (i := 7) (v := undef) rfl (by kernel_rfl) (by kernel_rfl) (by kernel_rfl) (fun _ _ _ h => h) (Or.inr ⟨by kernel_rfl, rfl⟩) (by assumption) ?_
          refine wpAnyH_take (i := 8) (v := undef) rfl (by kernel_rfl) (by kernel_rfl) (by kernel_rfl) (fun _ _ _ h => h) (Or.inr ⟨by kernel_rfl, rfl⟩) (by assumption) ?_
          refine wpAnyH_take (i := 9) (v := (.bool true)) rfl (by kernel_rfl) (by kernel_rfl) (by kernel_rfl) (fun _ _ _ h => h) (Or.inl ⟨by kernel_rfl, fun w hSw => by ((try dsimp only at hSw); go_simp)⟩) (by assumption) ?_
          refine wpAnyH_take (i := 10) (v := (.bool true)) rfl (by kernel_rfl) (by kernel_rfl) (by kernel_rfl) (fun _ _ _ h => h) (Or.inl ⟨by kernel_rfl, fun w hSw => by ((try dsimp only at hSw); go_simp)⟩) (by assumption) ?_
          refine wpAnyH_take (i := 11) (v := (.pointer (some ⟨w1.heap.size, 0, none⟩))) rfl (by kernel_rfl) (by kernel_rfl) (by kernel_rfl) (fun _ _ _ h => h) (Or.inl ⟨by kernel_rfl, fun w hSw => by ((try dsimp only at hSw); go_simp)⟩) (by assumption) ?_
          refine wpAnyH_take (i := 12) (v := (.slice (some ad) G.length c1)) rfl (by kernel_rfl) (by kernel_rfl) (by kernel_rfl) (fun _ _ _ h => h) (Or.inl ⟨by kernel_rfl, fun w hSw => by ((try dsimp only at hSw); go_simp)⟩) (by assumption) ?_
          refine wpAnyH_take (i := 13) (v := (.int .i64 (G.length : Nat))) rfl (by kernel_rfl) (by kernel_rfl) (by kernel_rfl) (fun _ _ _ h => h) (Or.inl ⟨by kernel_rfl, fun w hSw => by ((try dsimp only at hSw); go_simp)⟩) (by assumption) ?_
          refine wpAnyH_take (i := 17) (v := (.pointer (some ⟨w1.heap.size, 0, none⟩))) rfl (by kernel_rfl) (by kernel_rfl) (by kernel_rfl) (fun _ _ _ h => h) (Or.inl ⟨by kernel_rfl, fun w hSw => by ((try dsimp only at hSw); go_simp)⟩) (by assumption) ?_
          refine wpAnyH_take (i := 18) (v := (.slice (some ad) G.length c1)) rfl (by kernel_rfl) (by kernel_rfl) (by kernel_rfl) (fun _ _ _ h => h) (Or.inl ⟨by kernel_rfl, fun w hSw => by ((try dsimp only at hSw); go_simp)⟩) (by assumption) ?_
          refine wpAnyH_take (i := 19) (v := (.int .i64 (G.length : Nat))) rfl (by kernel_rfl) (by kernel_rfl) (by kernel_rfl) (fun _ _ _ h => h) (Or.inl ⟨by kernel_rfl, fun w hSw => by ((try dsimp only at hSw); go_simp)⟩) (by assumption) ?_
          refine wpAnyH_take (i := 20) (v := (.bool false)) rfl (by kernel_rfl) (by kernel_rfl) (by kernel_rfl) (fun _ _ _ h => h) (Or.inl ⟨by kernel_rfl, fun w hSw => by ((try dsimp only at hSw); go_simp)⟩) (by assumption) ?_
          have HM := Lib.hid (KD.out.next (below1 (w := w4B.drew) (.cells (madeCells #[.int .i64 0] G.length) 3)))
          have hS2 := HM.out.2.1
          have hrz := zero_rdG w4B.drew G.length hn1 hn9
          refine wpAnyH_ready (rs := [14]) (by kernel_rfl) (by simp) ?_
          refine AllReadyH.cons rfl (fun K0 hK0 => ?_) AllReadyH.nil
          go_simp
          refine hK0.out _ _ hS2 (fun hHeld2 => ?_)
          clear hK0 K0
          try simp only [Act.put, List.setIfInBounds_toArray, List.set_cons_zero, List.set_cons_succ]
          refine wpAnyH_take (i := 15) (v := (.agg #[.slice (some ⟨w4B.drew.heap.size, 0, none⟩) G.length G.length])) rfl (by kernel_rfl) (by kernel_rfl) (by kernel_rfl) (fun _ _ _ h => h) (Or.inl ⟨by kernel_rfl, fun w hSw => by ((try dsimp only at hSw); go_simp)⟩) (by assumption) ?_
          refine wpAnyH_ready (rs := [16]) (by kernel_rfl) (by simp) ?_
          refine AllReadyH.cons rfl (fun K0 hK0 => ?_) AllReadyH.nil
          go_simp
          refine (HZ.out _ _ _ (by exact hrz)).mono ?_
          rintro e Y2 ⟨rfl, z2⟩
          have K2 := Lib.hid (HM.out.next (by exact z2))
          have hS4 := K2.out.2.1
          try go_wp2_with fail
          refine hK0.out _ _ hS4 (fun hHeld2 => ?_)
          clear hK0 K0
          try simp only [Act.put, List.setIfInBounds_toArray, List.set_cons_zero, List.set_cons_succ]
          refine wpAnyH_take (i := 21) (v := (.bool true)) rfl (by kernel_rfl) (by kernel_rfl) (by kernel_rfl) (fun _ _ _ h => h) (Or.inl ⟨by kernel_rfl, fun w hSw => by ((try dsimp only at hSw); go_simp)⟩) (by assumption) ?_
          refine wpAnyH_take (i := 22) (v := (.bool true)) rfl (by kernel_rfl) (by kernel_rfl) (by kernel_rfl) (fun _ _ _ h => h) (Or.inl ⟨by kernel_rfl, fun w hSw => by ((try dsimp only at hSw); go_simp)⟩) (by assumption) ?_
          refine wpAnyH_ready (rs := [23]) (by kernel_rfl) (by simp) ?_
          refine AllReadyH.cons rfl (fun K0 hK0 => ?_) AllReadyH.nil
          go_simp
          refine hK0.out _ _ hS4 (fun hHeld2 => ?_)
          clear hK0 K0
          refine wpAnyH_done (by kernel_rfl) ?_ _
          go_wp2_with fail
          go_ret
          exact ⟨rfl, K2.out.1⟩
        · have hkw := HKW.out rfl
          rw [HKL.out] at hkw
          rw [decide_eq_true hkw] at HWK
          clear hkw HKW HKL
          refine wp_region_held_drew (S := fun w' => w'.cell? ⟨w1.heap.size, 0, none⟩ = some (.slice (some ad) G.length c1) ∧ w'.cell? ⟨w4.heap.size, 0, none⟩ = some (.slice (some ad2) G.length c2)) (by kernel_rfl) ⟨hcb, hcx⟩ (fun hHeld => ?_)
          refine wpAnyH_take (i := 0) (v := (.bool true)) rfl (by kernel_rfl) (by kernel_rfl) (by kernel_rfl) (fun _ _ _ h => h) (Or.inl ⟨by kernel_rfl, fun w hSw => by ((try dsimp only at hSw); go_simp)⟩) (by assumption) ?_
          refine wpAnyH_take (i := 1) (v := (.bool false)) rfl (by kernel_rfl) (by kernel_rfl) (by kernel_rfl) (fun _ _ _ h => h) (Or.inl ⟨by kernel_rfl, fun w hSw => by ((try dsimp only at hSw); go_simp)⟩) (by assumption) ?_
          refine wpAnyH_take (i := 2) (v := (.bool false)) rfl (by kernel_rfl) (by kernel_rfl) (by kernel_rfl) (fun _ _ _ h => h) (Or.inl ⟨by kernel_rfl, fun w hSw => by ((try dsimp only at hSw); go_simp)⟩) (by assumption) ?_
          refine wpAnyH_take (i := 3) (v := (.bool true)) rfl (by kernel_rfl) (by kernel_rfl) (by kernel_rfl) (fun _ _ _ h => h) (Or.inl ⟨by kernel_rfl, fun w hSw => by ((try dsimp only at hSw); go_simp)⟩) (by assumption) ?_
          refine wpAnyH_take (i := 4) (v := (.bool false)) rfl (by kernel_rfl) (by kernel_rfl) (by kernel_rfl) (fun _ _ _ h => h) (Or.inl ⟨by kernel_rfl, fun w hSw => by ((try dsimp only at hSw); go_simp)⟩) (by assumption) ?_
          refine wpAnyH_take (i := 5) (v := (.bool false)) rfl (by kernel_rfl) (by kernel_rfl) (by kernel_rfl) (fun _ _ _ h => h) (Or.inl ⟨by kernel_rfl, fun w hSw => by ((try dsimp only at hSw); go_simp)⟩) (by assumption) ?_
          refine wpAnyH_take (i := 6) (v := (.bool false)) rfl (by kernel_rfl) (by kernel_rfl) (by kernel_rfl) (fun _ _ _ h => h) (Or.inl ⟨by kernel_rfl, fun w hSw => by ((try dsimp only at hSw); go_simp)⟩) (by assumption) ?_
          refine wpAnyH_take (i := 7) (v := (.agg #[.slice (some ad2) G.length c2])) rfl (by kernel_rfl) (by kernel_rfl) (by kernel_rfl) (fun _ _ _ h => h) (Or.inl ⟨by kernel_rfl, fun w hSw => by ((try dsimp only at hSw); go_simp)⟩) (by assumption) ?_
          refine wpAnyH_ready (rs := [8]) (by kernel_rfl) (by simp) ?_
          refine AllReadyH.cons rfl (fun K0 hK0 => ?_) AllReadyH.nil
          go_simp
          refine (HWK.out _ _ _ (by exact hrx)).mono ?_
          rintro e Y1 ⟨rfl, z1⟩
          have K1 := Lib.hid (HL.out.next (undrew (by exact z1)))
          have X1 := Lib.hid (HX.out.next (undrew (by exact z1)))
          have hrb1 := K1.out.2.2.2
          have hS1 : Y1.cell? ⟨w1.heap.size, 0, none⟩ = some (.slice (some ad) G.length c1) ∧ Y1.cell? ⟨w4.heap.size, 0, none⟩ = some (.slice (some ad2) G.length c2) := And.intro K1.out.2.1 X1.out.1
          try go_wp2_with fail
          refine hK0.out _ _ hS1 (fun hHeld2 => ?_)
          clear hK0 K0
          try simp only [Act.put, List.setIfInBounds_toArray, List.set_cons_zero, List.set_cons_succ]
          refine wpAnyH_take (i := 9) (v := (.bool true)) rfl (by kernel_rfl) (by kernel_rfl) (by kernel_rfl) (fun _ _ _ h => h) (Or.inl ⟨by kernel_rfl, fun w hSw => by ((try dsimp only at hSw); go_simp)⟩) (by assumption) ?_
          refine wpAnyH_take (i := 10) (v := (.bool true)) rfl (by kernel_rfl) (by kernel_rfl) (by kernel_rfl) (fun _ _ _ h => h) (Or.inl ⟨by kernel_rfl, fun w hSw => by ((try dsimp only at hSw); go_simp)⟩) (by assumption) ?_
          refine wpAnyH_take (i := 11) (v := (.pointer (some ⟨w1.heap.size, 0, none⟩))) rfl (by kernel_rfl) (by kernel_rfl) (by kernel_rfl) (fun _ _ _ h => h) (Or.inl ⟨by kernel_rfl, fun w hSw => by ((try dsimp only at hSw); go_simp)⟩) (by assumption) ?_
          refine wpAnyH_take (i := 12) (v := (.slice (some ad) G.length c1)) rfl (by kernel_rfl) (by kernel_rfl) (by kernel_rfl) (fun _ _ _ h => h) (Or.inl ⟨by kernel_rfl, fun w hSw => by ((try dsimp only at hSw); go_simp)⟩) (by assumption) ?_
          refine wpAnyH_take (i := 13) (v := (.int .i64 (G.length : Nat))) rfl (by kernel_rfl) (by kernel_rfl) (by kernel_rfl) (fun _ _ _ h => h) (Or.inl ⟨by kernel_rfl, fun w hSw => by ((try dsimp only at hSw); go_simp)⟩) (by assumption) ?_
          refine wpAnyH_take (i := 17) (v := (.pointer (some ⟨w1.heap.size, 0, none⟩))) rfl (by kernel_rfl) (by kernel_rfl) (by kernel_rfl) (fun _ _ _ h => h) (Or.inl ⟨by kernel_rfl, fun w hSw => by ((try dsimp only at hSw); go_simp)⟩) (by assumption) ?_
          refine wpAnyH_take (i := 18) (v := (.slice (some ad) G.length c1)) rfl (by kernel_rfl) (by kernel_rfl) (by kernel_rfl) (fun _ _ _ h => h) (Or.inl ⟨by kernel_rfl, fun w hSw => by ((try dsimp only at hSw); go_simp)⟩) (by assumption) ?_
          refine wpAnyH_take (i := 19) (v := (.int .i64 (G.length : Nat))) rfl (by kernel_rfl) (by kernel_rfl) (by kernel_rfl) (fun _ _ _ h => h) (Or.inl ⟨by kernel_rfl, fun w hSw => by ((try dsimp only at hSw); go_simp)⟩) (by assumption) ?_
          refine wpAnyH_take (i := 20) (v := (.bool false)) rfl (by kernel_rfl) (by kernel_rfl) (by kernel_rfl) (fun _ _ _ h => h) (Or.inl ⟨by kernel_rfl, fun w hSw => by ((try dsimp only at hSw); go_simp)⟩) (by assumption) ?_
          have HM := Lib.hid (K1.out.next (below1 (w := Y1) (.cells (madeCells #[.int .i64 0] G.length) 3)))
          have hS2 := HM.out.2.1
          have hrz := zero_rdG Y1 G.length hn1 hn9
          have XM := Lib.hid (X1.out.next (below1 (w := Y1) (.cells (madeCells #[.int .i64 0] G.length) 3)))
          have hS3 := XM.out.1
          refine wpAnyH_ready (rs := [14]) (by kernel_rfl) (by simp) ?_
          refine AllReadyH.cons rfl (fun K0 hK0 => ?_) AllReadyH.nil
          go_simp
          refine hK0.out _ _ (And.intro hS2 hS3) (fun hHeld2 => ?_)
          clear hK0 K0
          try simp only [Act.put, List.setIfInBounds_toArray, List.set_cons_zero, List.set_cons_succ]
          refine wpAnyH_take (i := 15) (v := (.agg #[.slice (some ⟨Y1.heap.size, 0, none⟩) G.length G.length])) rfl (by kernel_rfl) (by kernel_rfl) (by kernel_rfl) (fun _ _ _ h => h) (Or.inl ⟨by kernel_rfl, fun w hSw => by ((try dsimp only at hSw); go_simp)⟩) (by assumption) ?_
          refine wpAnyH_ready (rs := [16]) (by kernel_rfl) (by simp) ?_
          refine AllReadyH.cons rfl (fun K0 hK0 => ?_) AllReadyH.nil
          go_simp
          refine (HZ.out _ _ _ (by exact hrz)).mono ?_
          rintro e Y2 ⟨rfl, z2⟩
          have K2 := Lib.hid (HM.out.next (by exact z2))
          have hS4 := K2.out.2.1
          have X2 := Lib.hid (XM.out.next (by exact z2))
          have hS5 := X2.out.1
          try go_wp2_with fail
          refine hK0.out _ _ (And.intro hS4 hS5) (fun hHeld2 => ?_)
          clear hK0 K0
          try simp only [Act.put, List.setIfInBounds_toArray, List.set_cons_zero, List.set_cons_succ]
          refine wpAnyH_take (i := 21) (v := (.bool true)) rfl (by kernel_rfl) (by kernel_rfl) (by kernel_rfl) (fun _ _ _ h => h) (Or.inl ⟨by kernel_rfl, fun w hSw => by ((try dsimp only at hSw); go_simp)⟩) (by assumption) ?_
          refine wpAnyH_take (i := 22) (v := (.bool true)) rfl (by kernel_rfl) (by kernel_rfl) (by kernel_rfl) (fun _ _ _ h => h) (Or.inl ⟨by kernel_rfl, fun w hSw => by ((try dsimp only at hSw); go_simp)⟩) (by assumption) ?_
          refine wpAnyH_ready (rs := [23]) (by kernel_rfl) (by simp) ?_
          refine AllReadyH.cons rfl (fun K0 hK0 => ?_) AllReadyH.nil
          go_simp
          refine hK0.out _ _ (And.intro hS4 hS5) (fun hHeld2 => ?_)
          clear hK0 K0
          refine wpAnyH_done (by kernel_rfl) ?_ _
          go_wp2_with fail
          go_ret
          exact ⟨rfl, K2.out.1⟩
  · go_enter Try.func4, Try.ntmps4
    go_wp2_with fail
    go_ret
    exact ⟨rfl, Below.refl _ _⟩
namespace rowWhole
theorem contract (H : Type) (enc : TypeId × Value → H) (W : World) (base : Nat) (args : Array Value) (ds gs : List (DataW H)) (before : List MemPlace)
    (hval : ∀ (j : Nat) t v, Try.f4.params[j]? = some t → args[j]? = some v → Value.okWide Try.prog W .any base t v)
    (hW : DataW.Whole enc Try.prog Try.f4.params.toList Rows.fnWholeSpec.vars false W args.toList ds gs before) :
    Calls Try.prog 4 args W fun e W' => ∃ v, e = .returned v ∧ Rows.fnWholeSpec.post enc Try.prog Try.f4 false true false false W args v W' := by
  have hW' := hW
  obtain ⟨p, q, hA0, hV, rfl, _, _⟩ := hW
  obtain ⟨rfl, rfl⟩ := trodVars_none hV
  simp only [List.append_nil] at hW'
  have hlt : ∀ x ∈ p, x.block < W.heap.size := fun x hx => hW'.lt x hx
  have hA : DataW.TrodAll enc Try.prog W 0 (fun _ => true) true Try.f4.params.toList args.toList ds p := hA0
  rw [Try.params4] at hA hval
  obtain ⟨v0, vs0, d0, ds0, p0, q0, hargs, rfl, rfl, h0, r0⟩ := trodAll_cons hA
  obtain ⟨rfl, rfl, rfl⟩ := trodAll_nil r0
  obtain rfl : args = #[v0] := by cases args; simp_all
  obtain ⟨A0, n0, c0, rfl, m0, k0, g0⟩ := open_bytes (hval 0 _ v0 rfl rfl) h0 (fun x hx => hlt x (by simp [hx]))
  refine (lawWhole A0 n0 c0 m0 k0 W g0).mono fun e W' ⟨he, hg⟩ => ?_
  subst he
  exact ⟨_, rfl, post_true rfl (by kernel_rfl) rfl (by kernel_rfl) hW' hA0 hg⟩
set_option maxRecDepth 100000 in
theorem lifted (os : Os) (started : os.Started) (H : Type) (enc : TypeId × Value → H) :
    ReturnsInHanded {} Try.checked os 4 .any (Rows.fnWholeSpec.pre6 enc Try.prog Try.f4 Rows.fnWholeRow.domain false) (Rows.fnWholeSpec.post enc Try.prog Try.f4 false true false false) := by
  refine returnsInHanded_of_change (C := Try.checked) own_knob started (by kernel_rfl) Try.func4
    (ChangeSpec.witness6 (enc := enc) (C := Try.checked) false ⟨#[], #[.slice none 0 0], []⟩ 8 (by kernel_rfl) (by kernel_rfl) (by kernel_rfl) (by kernel_rfl)) ?_
  intro W base args ds gs before hval hW _ _
  exact contract H enc W base args ds gs before hval hW
end rowWhole
theorem Whole_holds : Rows.FnWholeSaid :=
  OpenClaim.holds_of_wide 4 Try.f4 rfl rfl rfl rfl rfl rfl rfl ⟨rfl, rfl, rfl, rfl, rfl⟩ rfl rfl rfl rfl rfl (by kernel_rfl) Try.func4 (by kernel_rfl)
    (of_decide_eq_true (by kernel_rfl)) (by unfold Func.isWrapper; first | (rw [if_pos (by decide +kernel)]; kernel_rfl) | (rw [if_neg (by decide +kernel)]; exact ⟨rfl, rfl⟩))
    (fun os started H enc _ => rowWhole.lifted os started H enc)
#print axioms Whole_holds
end Go.Proofs.Ytlfigdpgdkbknaa

