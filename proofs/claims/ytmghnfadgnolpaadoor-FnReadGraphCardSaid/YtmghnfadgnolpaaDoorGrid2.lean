/- GridOf of the reference by its contract. No conditions. -/
import Derived.Test.YtmghnfadgnolpaaDoorGrid
namespace Go.Proofs.YtmghnfadgnolpaaDoor
open Go.RowKit
/-- the reference's row, its box, its result's cell, and what was there before -/
def GS (w wr : World) (hi n : Nat) (f : Nat → Nat) : Prop :=
  GI w wr hi n f ∧ wr.cell? ⟨hi, 0, none⟩ = some (.slice (some ⟨w.heap.size + 1, 0, none⟩) n n) ∧ wr.frozen? ⟨hi, 0, none⟩ = false
theorem GS.put {w wr : World} {hi n : Nat} {f : Nat → Nat} (h : GS w wr hi n f) (hne : w.heap.size + 1 < hi) (k x : Nat) (y : Int) (hy : y = (x : Nat)) : GS w ((wr.setCell ⟨w.heap.size + 1, k, none⟩ (.int .i64 y)).drew) hi n (Sw.put f k x) := by
  subst hy
  obtain ⟨hG, hc, hf⟩ := h
  obtain ⟨h1, h2⟩ := hG.1.set k x
  refine ⟨hG.join (w2 := World.drew _) h1 (grown_drew h2), ?_, ?_⟩
  · exact h2.cell hc (by intro e; injection e with e; simp at e; omega)
  · show (wr.setCell _ _).frozen? _ = false
    rw [frozen_setCell]; exact hf
theorem GS.cells {w wr : World} {hi n : Nat} {f : Nat → Nat} (h : GS w wr hi n f) (k : Nat) (hk : k < n) : wr.cell? ⟨w.heap.size + 1, k, none⟩ = some (.int .i64 (f k : Nat)) ∧ wr.frozen? ⟨w.heap.size + 1, k, none⟩ = false := by
  obtain ⟨g', c', e, _, _, hc⟩ := h.1.1.form (by omega)
  injection e with e1 _ _
  injection e1 with e1
  injection e1 with e1 _ _
  subst e1
  exact hc k hk
theorem GS.start {w w1 : World} {n : Nat} {t : TypeId} (hO : OwnF w1 (w.heap.size + 1) w1.heap.size (.slice (some ⟨w.heap.size + 1, 0, none⟩) n n) n (fun _ => 0)) (hb : Below w.heap.size w w1) (hz : w.heap.size < w1.heap.size) (hc : w1.cell? ⟨w.heap.size, 0, none⟩ = some (.slice none 0 0)) (hf : w1.frozen? ⟨w.heap.size, 0, none⟩ = false) :
    GS w (w1.alloc (.cells #[.slice (some ⟨w.heap.size + 1, 0, none⟩) n n] t)) w1.heap.size n (fun _ => 0) := by
  have hg : w1.grownBy (w1.alloc (.cells #[.slice (some ⟨w.heap.size + 1, 0, none⟩) n n] t)) none := ⟨rfl, rfl, rfl, by simp, fun k hk _ => Below.heap_alloc w1 _ k hk⟩
  refine ⟨⟨hO.grown hg (fun g h => by cases h), hb.trans (below_of_grown hg hb.size (fun g h => by cases h)), hg.cell hc (by intro e; cases e), ?_⟩, by simp [go_sem], by simp [go_sem]⟩
  rw [World.frozen?_of_block (hg.block w.heap.size hz (by intro e; cases e))]; exact hf
theorem put_ne (f : Nat → Nat) (x : Nat) {i k : Nat} (h : ¬ i = k) : Sw.put f k x i = f i := by unfold Sw.put; rw [if_neg h]
theorem then_any {F : Exit → Act → World → Prop} {e : Exit} {a : Act} {W : World} (R : World → Prop) (h : R W) (k : ∀ w2, R w2 → F e a w2) : F e a W := k W h
set_option maxRecDepth 100000 in
theorem specGridOf_yes (a b : Nat) (ha : 1 ≤ a) (hb : 1 ≤ b) (hab : a * b ≤ 9) (w : World) :
    Calls Tryd.prog 32 #[.int .i64 a, .int .i64 b] w fun e w' => ∃ v, e = .returned (.agg #[v]) ∧ OwnI w' w.heap.size w'.heap.size v (Sw.vGrid a b) ∧ Below w.heap.size w w' := by
  have h9 := Sw.side_le ha hb hab
  have h9a := h9.1
  have h9b := h9.2
  clear h9
  have HV := Lib.hid (Sw.vGrid_yes ha hb hab)
  have HQ := Lib.hid (Sw.grid_eq ha hb hab)
  have HL := Lib.hid (Sw.gridS_lt ha hb hab)
  obtain ⟨N, hN⟩ : ∃ N : Nat, N = a * b := ⟨_, rfl⟩
  rw [← hN] at HV HQ HL hab
  have hm : (a : Int) * (b : Int) = (N : Int) := by rw [hN]; simp
  have HN := Lib.hid hN
  clear hN
  obtain ⟨i0, hi, hz0, hz1, hz2⟩ := info_parts info_int
  go_enter Tryd.func32, Tryd.ntmps32
  go_wp2_with fail
  refine (l1In_yes _ _ _ _ (by omega) (by omega)).mono ?_
  rintro e w' ⟨rfl, rfl⟩
  go_wp2_with fail
  refine (l1In_yes _ _ _ _ (by omega) (by omega)).mono ?_
  rintro e w' ⟨rfl, rfl⟩
  go_wp2_with (at_make; refine wpList_make_full _ rfl _ _ 23 rfl (w.heap.size + 1) 3 i0 (.int .i64 0) 1 Tryd.underlying23 hi hz0 hz1 .i64 .i64 _ _ N rfl rfl rfl rfl (by rw [hz2]; omega) (by unfold maxLen; omega) (by simp) ?_; intro w1 hown hgrow)
  simp only [World.size_alloc] at hown
  have hs1 : w.heap.size + 1 < w1.heap.size := (World.ownsRow.lt hown (w.heap.size + 1) rfl).2
  have hbx := below_of_grown hgrow (Nat.le_refl _) (fun g h => by cases h)
  obtain ⟨hb, hc, hz⟩ := box_after hbx
  have hfr := free_after hbx
  clear hgrow hi hz0 hz1 hz2
  go_loopw [6] (fun i wr => ∃ k : Nat, k ≤ N ∧ i = .int .i64 k ∧ GS w wr w1.heap.size N (Sw.gridS a k)) (fun i _ => (N - intOf i).toNat)
  case atStart =>
    exact ⟨0, by omega, rfl, GS.start (made_zero hown) hb hz hc hfr⟩
  case round =>
    obtain ⟨k, hk, rfl, hG⟩ := hrel
    by_cases hlt : k < N
    · obtain ⟨M, hM⟩ : ∃ M : Nat, M = k % a := ⟨_, rfl⟩
      have hm1 : (k : Int).tmod a = (M : Int) := by rw [hM, Int.tmod_eq_emod_of_nonneg (by omega)]; simp
      have hMa : M ≤ k := by rw [hM]; exact Nat.mod_le _ _
      have HM := Lib.hid hM
      clear hM
      have ha0 : ¬ a = 0 := by omega
      have HS := Lib.hid (Sw.gridS_succ a k)
      have hbA := HL.out k hlt
      have hne1 : ¬ w1.heap.size = w.heap.size + 1 := by omega
      obtain ⟨P, hP⟩ : ∃ P : Nat, P = 2 ^ k := ⟨_, rfl⟩
      have hP9 : P < 2 ^ 9 := by rw [hP]; exact Nat.pow_lt_pow_right (by omega) (by omega)
      have hPI : IntKind.i64.wrap ((2 : Int) ^ k) = (P : Int) := by rw [hP, pow_nat]; refine IntWalk.i64_in _ ?_; rw [← hP]; omega
      have HP := Lib.hid hP
      clear hP
      have HG := Lib.hid hG
      clear hG
      by_cases q1 : 0 < M
      · obtain ⟨j, hj⟩ : ∃ j : Nat, k = j + 1 := ⟨k - 1, by omega⟩
        have hwj : IntKind.i64.wrap ((k : Int) - 1) = (j : Int) := by rw [IntWalk.i64_in _ (by omega)]; omega
        have hjn : k - 1 = j := by omega
        have hjk : ¬ j = k := by omega
        have hjN : j < N := by omega
        have Hj := Lib.hid hj
        clear hj
        obtain ⟨J, hJ⟩ : ∃ J : Nat, J = 2 ^ j := ⟨_, rfl⟩
        have hJ9 : J < 2 ^ 9 := by rw [hJ]; exact Nat.pow_lt_pow_right (by omega) (by omega)
        have hJI : IntKind.i64.wrap ((2 : Int) ^ j) = (J : Int) := by rw [hJ, pow_nat]; refine IntWalk.i64_in _ ?_; rw [← hJ]; omega
        have HJ := Lib.hid hJ
        clear hJ
        have hFB := (hbA k hlt).1
        obtain ⟨X, hX⟩ : ∃ X : Nat, X = (Sw.gridS a k) k + J := ⟨_, rfl⟩
        have hXI : IntKind.i64.wrap (((Sw.gridS a k) k : Nat) + (2 : Int) ^ j) = (X : Int) := by rw [pow_nat, ← HJ.out, IntWalk.i64_in _ (by omega), hX]; simp
        have HX := Lib.hid hX
        clear hX
        obtain ⟨hck, hfk⟩ := HG.out.cells k (by omega)
        obtain ⟨hcx, hfx⟩ := HG.out.2
        go_wp2_with fail
        go_region
        refine then_any (fun w2 => GS w w2 w1.heap.size N (Sw.put ((Sw.gridS a k)) k X)) (HG.out.put hs1 k X _ (by first | rfl | (rw [HX.out]; simp; done) | (rw [pow_nat, ← HJ.out, HX.out]; simp))) ?_
        clear hck hfk hcx hfx hFB hXI
        intro w2 HG1
        have HG1 := Lib.hid HG1
        have hFB := show Sw.put (Sw.gridS a k) k X j < 1024 from by unfold Sw.put; rw [if_neg hjk]; exact (hbA j hjN).1
        obtain ⟨W, hW⟩ : ∃ W : Nat, W = (Sw.put (Sw.gridS a k) k X) j + P := ⟨_, rfl⟩
        have hXI : IntKind.i64.wrap (((Sw.put (Sw.gridS a k) k X) j : Nat) + (2 : Int) ^ k) = (W : Int) := by rw [pow_nat, ← HP.out, IntWalk.i64_in _ (by omega), hW]; simp
        have HW := Lib.hid hW
        clear hW
        obtain ⟨hck, hfk⟩ := HG1.out.cells j (by omega)
        obtain ⟨hcx, hfx⟩ := HG1.out.2
        go_wp2_with fail
        go_region
        refine then_any (fun w2 => GS w w2 w1.heap.size N (Sw.put ((Sw.put (Sw.gridS a k) k X)) j W)) (HG1.out.put hs1 j W _ (by first | rfl | (rw [HW.out]; simp; done) | (rw [pow_nat, ← HP.out, HW.out]; simp))) ?_
        clear hck hfk hcx hfx hFB hXI
        intro w2 HG2
        have HG2 := Lib.hid HG2
        have hE : Sw.gsA a k (Sw.gridS a k) = (Sw.put (Sw.put (Sw.gridS a k) k X) j W) := by
          unfold Sw.gsA
          rw [← HM.out, if_pos q1, hjn, ← HP.out, ← HJ.out, HW.out, HX.out]
          unfold Sw.put; rw [if_neg hjk]
        have HE := Lib.hid hE
        clear hE
        by_cases q2 : a ≤ k
        · obtain ⟨i, hi⟩ : ∃ i : Nat, k = a + i := ⟨k - a, by omega⟩
          have hwi : IntKind.i64.wrap ((k : Int) - (a : Int)) = (i : Int) := by rw [IntWalk.i64_in _ (by omega)]; omega
          have hin : k - a = i := by omega
          have hik : ¬ i = k := by omega
          have hiN : i < N := by omega
          have Hi := Lib.hid hi
          clear hi
          obtain ⟨I, hI⟩ : ∃ I : Nat, I = 2 ^ i := ⟨_, rfl⟩
          have hI9 : I < 2 ^ 9 := by rw [hI]; exact Nat.pow_lt_pow_right (by omega) (by omega)
          have hII : IntKind.i64.wrap ((2 : Int) ^ i) = (I : Int) := by rw [hI, pow_nat]; refine IntWalk.i64_in _ ?_; rw [← hI]; omega
          have HI := Lib.hid hI
          clear hI
          have hFB := (by have := (hbA k (by omega)).2; rw [HE.out] at this; exact this : (Sw.put (Sw.put (Sw.gridS a k) k X) j W) k < 1024)
          obtain ⟨Y, hY⟩ : ∃ Y : Nat, Y = (Sw.put (Sw.put (Sw.gridS a k) k X) j W) k + I := ⟨_, rfl⟩
          have hXI : IntKind.i64.wrap (((Sw.put (Sw.put (Sw.gridS a k) k X) j W) k : Nat) + (2 : Int) ^ i) = (Y : Int) := by rw [pow_nat, ← HI.out, IntWalk.i64_in _ (by omega), hY]; simp
          have HY := Lib.hid hY
          clear hY
          obtain ⟨hck, hfk⟩ := HG2.out.cells k (by omega)
          obtain ⟨hcx, hfx⟩ := HG2.out.2
          go_wp2_with fail
          go_region
          refine then_any (fun w2 => GS w w2 w1.heap.size N (Sw.put ((Sw.put (Sw.put (Sw.gridS a k) k X) j W)) k Y)) (HG2.out.put hs1 k Y _ (by first | rfl | (rw [HY.out]; simp; done) | (rw [pow_nat, ← HI.out, HY.out]; simp))) ?_
          clear hck hfk hcx hfx hFB hXI
          intro w2 HG3
          have HG3 := Lib.hid HG3
          have hFB := show Sw.put ((Sw.put (Sw.put (Sw.gridS a k) k X) j W)) k Y i < 1024 from by unfold Sw.put; rw [if_neg hik]; exact (by have := (hbA i (by omega)).2; rw [HE.out] at this; exact this : (Sw.put (Sw.put (Sw.gridS a k) k X) j W) i < 1024)
          obtain ⟨Z, hZ⟩ : ∃ Z : Nat, Z = (Sw.put ((Sw.put (Sw.put (Sw.gridS a k) k X) j W)) k Y) i + P := ⟨_, rfl⟩
          have hXI : IntKind.i64.wrap (((Sw.put ((Sw.put (Sw.put (Sw.gridS a k) k X) j W)) k Y) i : Nat) + (2 : Int) ^ k) = (Z : Int) := by rw [pow_nat, ← HP.out, IntWalk.i64_in _ (by omega), hZ]; simp
          have HZ := Lib.hid hZ
          clear hZ
          obtain ⟨hck, hfk⟩ := HG3.out.cells i (by omega)
          obtain ⟨hcx, hfx⟩ := HG3.out.2
          go_wp2_with fail
          go_region
          refine then_any (fun w2 => GS w w2 w1.heap.size N (Sw.put ((Sw.put ((Sw.put (Sw.put (Sw.gridS a k) k X) j W)) k Y)) i Z)) (HG3.out.put hs1 i Z _ (by first | rfl | (rw [HZ.out]; simp; done) | (rw [pow_nat, ← HP.out, HZ.out]; simp))) ?_
          clear hck hfk hcx hfx hFB hXI
          intro w2 HG4
          have HG4 := Lib.hid HG4
          go_wp2_with fail
          go_roundw
          case rel =>
            refine ⟨k + 1, by omega, by go_num, ?_⟩
            have hE : Sw.gridS a (k + 1) = Sw.put (Sw.put ((Sw.put (Sw.put (Sw.gridS a k) k X) j W)) k Y) i Z := by
              rw [HS.out]; unfold Sw.gsB
              rw [if_pos q2, hin, HE.out, ← HP.out, ← HI.out, HZ.out, HY.out, put_ne _ _ hik]
            rw [hE]; exact HG4.out
          case measure => simp [intOf]; omega
        · go_wp2_with fail
          go_roundw
          case rel =>
            refine ⟨k + 1, by omega, by go_num, ?_⟩
            have hE : Sw.gridS a (k + 1) = (Sw.put (Sw.put (Sw.gridS a k) k X) j W) := by
              rw [HS.out]; unfold Sw.gsB
              rw [if_neg q2, HE.out]
            rw [hE]; exact HG2.out
          case measure => simp [intOf]; omega
      · have hE : Sw.gsA a k (Sw.gridS a k) = Sw.gridS a k := by
          unfold Sw.gsA; rw [← HM.out, if_neg q1]
        have HE := Lib.hid hE
        clear hE
        by_cases q2 : a ≤ k
        · obtain ⟨i, hi⟩ : ∃ i : Nat, k = a + i := ⟨k - a, by omega⟩
          have hwi : IntKind.i64.wrap ((k : Int) - (a : Int)) = (i : Int) := by rw [IntWalk.i64_in _ (by omega)]; omega
          have hin : k - a = i := by omega
          have hik : ¬ i = k := by omega
          have hiN : i < N := by omega
          have Hi := Lib.hid hi
          clear hi
          obtain ⟨I, hI⟩ : ∃ I : Nat, I = 2 ^ i := ⟨_, rfl⟩
          have hI9 : I < 2 ^ 9 := by rw [hI]; exact Nat.pow_lt_pow_right (by omega) (by omega)
          have hII : IntKind.i64.wrap ((2 : Int) ^ i) = (I : Int) := by rw [hI, pow_nat]; refine IntWalk.i64_in _ ?_; rw [← hI]; omega
          have HI := Lib.hid hI
          clear hI
          have hFB := (hbA k (by omega)).1
          obtain ⟨Y, hY⟩ : ∃ Y : Nat, Y = (Sw.gridS a k) k + I := ⟨_, rfl⟩
          have hXI : IntKind.i64.wrap (((Sw.gridS a k) k : Nat) + (2 : Int) ^ i) = (Y : Int) := by rw [pow_nat, ← HI.out, IntWalk.i64_in _ (by omega), hY]; simp
          have HY := Lib.hid hY
          clear hY
          obtain ⟨hck, hfk⟩ := HG.out.cells k (by omega)
          obtain ⟨hcx, hfx⟩ := HG.out.2
          go_wp2_with fail
          go_region
          refine then_any (fun w2 => GS w w2 w1.heap.size N (Sw.put ((Sw.gridS a k)) k Y)) (HG.out.put hs1 k Y _ (by first | rfl | (rw [HY.out]; simp; done) | (rw [pow_nat, ← HI.out, HY.out]; simp))) ?_
          clear hck hfk hcx hfx hFB hXI
          intro w2 HG3
          have HG3 := Lib.hid HG3
          have hFB := show Sw.put ((Sw.gridS a k)) k Y i < 1024 from by unfold Sw.put; rw [if_neg hik]; exact (hbA i (by omega)).1
          obtain ⟨Z, hZ⟩ : ∃ Z : Nat, Z = (Sw.put ((Sw.gridS a k)) k Y) i + P := ⟨_, rfl⟩
          have hXI : IntKind.i64.wrap (((Sw.put ((Sw.gridS a k)) k Y) i : Nat) + (2 : Int) ^ k) = (Z : Int) := by rw [pow_nat, ← HP.out, IntWalk.i64_in _ (by omega), hZ]; simp
          have HZ := Lib.hid hZ
          clear hZ
          obtain ⟨hck, hfk⟩ := HG3.out.cells i (by omega)
          obtain ⟨hcx, hfx⟩ := HG3.out.2
          go_wp2_with fail
          go_region
          refine then_any (fun w2 => GS w w2 w1.heap.size N (Sw.put ((Sw.put ((Sw.gridS a k)) k Y)) i Z)) (HG3.out.put hs1 i Z _ (by first | rfl | (rw [HZ.out]; simp; done) | (rw [pow_nat, ← HP.out, HZ.out]; simp))) ?_
          clear hck hfk hcx hfx hFB hXI
          intro w2 HG4
          have HG4 := Lib.hid HG4
          go_wp2_with fail
          go_roundw
          case rel =>
            refine ⟨k + 1, by omega, by go_num, ?_⟩
            have hE : Sw.gridS a (k + 1) = Sw.put (Sw.put ((Sw.gridS a k)) k Y) i Z := by
              rw [HS.out]; unfold Sw.gsB
              rw [if_pos q2, hin, HE.out, ← HP.out, ← HI.out, HZ.out, HY.out, put_ne _ _ hik]
            rw [hE]; exact HG4.out
          case measure => simp [intOf]; omega
        · go_wp2_with fail
          go_roundw
          case rel =>
            refine ⟨k + 1, by omega, by go_num, ?_⟩
            have hE : Sw.gridS a (k + 1) = (Sw.gridS a k) := by
              rw [HS.out]; unfold Sw.gsB
              rw [if_neg q2, HE.out]
            rw [hE]; exact HG.out
          case measure => simp [intOf]; omega
    · have : k = N := by omega
      subst this
      obtain ⟨⟨hO, hb, hc, hfr⟩, hcx, hfx⟩ := hG
      have hO' : OwnI wr (w.heap.size + 1) w1.heap.size (.slice (some ⟨w.heap.size + 1, 0, none⟩) k k) (Sw.vGrid a b) := by
        rw [HV.out]
        have e : Sw.tab k (Sw.gridS a k) = Sw.tab k (Sw.gridF a b) := Sw.tab_congr HQ.out
        unfold OwnF at hO
        rw [e] at hO; exact hO
      have HF := Lib.hid (fun u => ((hO'.store_far (b := w.heap.size) (by omega) u).up.lo_ (lo' := w.heap.size) (by omega)))
      have HB := Lib.hid (fun u => hb.setCell (p := ⟨w.heap.size, 0, none⟩) (Nat.le_refl _) u)
      have HC := Lib.hid (fun u => World.cell?_setCell_same' wr ⟨w.heap.size, 0, none⟩ u (by rw [hc]; rfl))
      clear hO hO' hb
      go_wp2_with fail
      exact bodyPost_ret (v := .agg #[.slice (some ⟨w.heap.size + 1, 0, none⟩) k k]) (by have q := HC.out (.slice (some ⟨w.heap.size + 1, 0, none⟩) k k); simp [results, Tryd.results32, go_sem, q]) rfl ⟨_, rfl, HF.out _, HB.out _⟩
theorem specGridOf_a (p q : Int) (w : World) (hp : ¬ Sw.gridOk p q) (h : p < 1) :
    Calls Tryd.prog 32 #[.int .i64 p, .int .i64 q] w fun e w' => ∃ v, e = .returned (.agg #[v]) ∧ OwnI w' w.heap.size w'.heap.size v (Sw.vGrid p q) ∧ Below w.heap.size w w' := by
  have HN := Lib.hid (OwnI_no w hp)
  clear hp
  go_enter Tryd.func32, Tryd.ntmps32
  go_wp2_with fail
  refine (l1In_no _ _ _ _ (by omega)).mono ?_
  rintro e w' ⟨rfl, rfl⟩
  go_wp2_with fail
  exact bodyPost_ret (v := .agg #[.slice none 0 0]) (by simp [results, Tryd.results32, go_sem]) rfl ⟨_, rfl, HN.out, below1 _⟩
theorem specGridOf_b (p q : Int) (w : World) (hp : ¬ Sw.gridOk p q) (_h1 : 1 ≤ p) (h2 : 9 < p) :
    Calls Tryd.prog 32 #[.int .i64 p, .int .i64 q] w fun e w' => ∃ v, e = .returned (.agg #[v]) ∧ OwnI w' w.heap.size w'.heap.size v (Sw.vGrid p q) ∧ Below w.heap.size w w' := by
  have HN := Lib.hid (OwnI_no w hp)
  clear hp
  go_enter Tryd.func32, Tryd.ntmps32
  go_wp2_with fail
  refine (l1In_no _ _ _ _ (by omega)).mono ?_
  rintro e w' ⟨rfl, rfl⟩
  go_wp2_with fail
  exact bodyPost_ret (v := .agg #[.slice none 0 0]) (by simp [results, Tryd.results32, go_sem]) rfl ⟨_, rfl, HN.out, below1 _⟩
theorem specGridOf_c (p q : Int) (w : World) (hp : ¬ Sw.gridOk p q) (h1 : 1 ≤ p) (h2 : p ≤ 9) (h3 : q < 1) :
    Calls Tryd.prog 32 #[.int .i64 p, .int .i64 q] w fun e w' => ∃ v, e = .returned (.agg #[v]) ∧ OwnI w' w.heap.size w'.heap.size v (Sw.vGrid p q) ∧ Below w.heap.size w w' := by
  have HN := Lib.hid (OwnI_no w hp)
  clear hp
  go_enter Tryd.func32, Tryd.ntmps32
  go_wp2_with fail
  refine (l1In_yes _ _ _ _ (by omega) (by omega)).mono ?_
  rintro e w' ⟨rfl, rfl⟩
  go_wp2_with fail
  refine (l1In_no _ _ _ _ (by omega)).mono ?_
  rintro e w' ⟨rfl, rfl⟩
  go_wp2_with fail
  exact bodyPost_ret (v := .agg #[.slice none 0 0]) (by simp [results, Tryd.results32, go_sem]) rfl ⟨_, rfl, HN.out, below1 _⟩
theorem specGridOf_d (p q : Int) (w : World) (hp : ¬ Sw.gridOk p q) (h1 : 1 ≤ p) (h2 : p ≤ 9) (_h3 : 1 ≤ q) (h4 : 9 < q) :
    Calls Tryd.prog 32 #[.int .i64 p, .int .i64 q] w fun e w' => ∃ v, e = .returned (.agg #[v]) ∧ OwnI w' w.heap.size w'.heap.size v (Sw.vGrid p q) ∧ Below w.heap.size w w' := by
  have HN := Lib.hid (OwnI_no w hp)
  clear hp
  go_enter Tryd.func32, Tryd.ntmps32
  go_wp2_with fail
  refine (l1In_yes _ _ _ _ (by omega) (by omega)).mono ?_
  rintro e w' ⟨rfl, rfl⟩
  go_wp2_with fail
  refine (l1In_no _ _ _ _ (by omega)).mono ?_
  rintro e w' ⟨rfl, rfl⟩
  go_wp2_with fail
  exact bodyPost_ret (v := .agg #[.slice none 0 0]) (by simp [results, Tryd.results32, go_sem]) rfl ⟨_, rfl, HN.out, below1 _⟩
theorem specGridOf_e (p q : Int) (w : World) (hp : ¬ Sw.gridOk p q) (h1 : 1 ≤ p) (h2 : p ≤ 9) (h3 : 1 ≤ q) (h4 : q ≤ 9) (h5 : 9 < p * q) (h6 : p * q ≤ 81) :
    Calls Tryd.prog 32 #[.int .i64 p, .int .i64 q] w fun e w' => ∃ v, e = .returned (.agg #[v]) ∧ OwnI w' w.heap.size w'.heap.size v (Sw.vGrid p q) ∧ Below w.heap.size w w' := by
  have HN := Lib.hid (OwnI_no w hp)
  clear hp
  go_enter Tryd.func32, Tryd.ntmps32
  go_wp2_with fail
  refine (l1In_yes _ _ _ _ (by omega) (by omega)).mono ?_
  rintro e w' ⟨rfl, rfl⟩
  go_wp2_with fail
  refine (l1In_yes _ _ _ _ (by omega) (by omega)).mono ?_
  rintro e w' ⟨rfl, rfl⟩
  go_wp2_with fail
  exact bodyPost_ret (v := .agg #[.slice none 0 0]) (by simp [results, Tryd.results32, go_sem]) rfl ⟨_, rfl, HN.out, below1 _⟩
theorem specGridOf (p q : Int) (w : World) :
    Calls Tryd.prog 32 #[.int .i64 p, .int .i64 q] w fun e w' => ∃ v, e = .returned (.agg #[v]) ∧ OwnI w' w.heap.size w'.heap.size v (Sw.vGrid p q) ∧ Below w.heap.size w w' := by
  by_cases hp : Sw.gridOk p q
  · obtain ⟨a, b, rfl, rfl, ha, hb, hab⟩ := Sw.gridOk_nat hp
    exact specGridOf_yes a b ha hb hab w
  · have hcase : p < 1 ∨ (1 ≤ p ∧ 9 < p) ∨ (1 ≤ p ∧ p ≤ 9 ∧ q < 1) ∨ (1 ≤ p ∧ p ≤ 9 ∧ 1 ≤ q ∧ 9 < q) ∨ (1 ≤ p ∧ p ≤ 9 ∧ 1 ≤ q ∧ q ≤ 9 ∧ 9 < p * q ∧ p * q ≤ 81) := by
      by_cases h1 : 1 ≤ p <;> by_cases h2 : p ≤ 9 <;> by_cases h3 : 1 ≤ q <;> by_cases h4 : q ≤ 9
      · refine .inr (.inr (.inr (.inr ⟨h1, h2, h3, h4, ?_, ?_⟩)))
        · by_cases h5 : p * q ≤ 9
          · exact absurd ⟨h1, h2, h3, h4, h5⟩ hp
          · omega
        · have := Int.mul_le_mul h2 h4 (by omega) (by omega); omega
      all_goals omega
    rcases hcase with h | ⟨h1, h2⟩ | ⟨h1, h2, h3⟩ | ⟨h1, h2, h3, h4⟩ | ⟨h1, h2, h3, h4, h5, h6⟩
    · exact specGridOf_a p q w hp h
    · exact specGridOf_b p q w hp h1 h2
    · exact specGridOf_c p q w hp h1 h2 h3
    · exact specGridOf_d p q w hp h1 h2 h3 h4
    · exact specGridOf_e p q w hp h1 h2 h3 h4 h5 h6
end Go.Proofs.YtmghnfadgnolpaaDoor

