/- The program's ReadGraph by its contract, where the head fits. Conditions: at most 2^62 bytes. -/
import Derived.Test.YtmghnfadgnolpaaDoorRt
namespace Go.Proofs.YtmghnfadgnolpaaDoor
open Go.RowKit
theorem GI.draw {w wr : World} {hi n : Nat} {f : Nat → Nat} (h : GI w wr hi n f) (m : Nat) : GI w (wr.drewN m) hi n f := ⟨h.1, bdr h.2.1 m, h.2.2⟩
theorem ByteArray_toList_inj {a b : List UInt8} (h : (⟨a.toArray⟩ : ByteArray).toList = (⟨b.toArray⟩ : ByteArray).toList) : a = b := by
  rw [ByteArray.toList_eq, ByteArray.toList_eq] at h
  simpa using h
set_option maxRecDepth 100000 in
set_option maxHeartbeats 4000000 in
theorem implRead_5 (l : List UInt8) (hl : l.length ≤ 4611686018427387904) (w : World) (h2 : 2 ≤ l.length) (h1 : 49 ≤ Sw.gb l 0) (h3 : Sw.gb l 0 ≤ 57) (h4 : Sw.gb l 1 = 58) : Calls Tryd.prog 10 #[.string ⟨l.toArray⟩] w (RdPost w l) := by
  obtain ⟨N, hN⟩ : ∃ N : Nat, Sw.gb l 0 = 48 + N := ⟨Sw.gb l 0 - 48, by omega⟩
  have hN9 : N ≤ 9 := by omega
  have hN1 : 1 ≤ N := by omega
  have hd : decide ((l.length : Int) < 2) = false := by rw [decide_eq_false_iff_not]; omega
  have hi0 := idx_at l 0 (by omega) 0 rfl
  have hi1 := idx_at l 1 (by omega) 1 rfl
  rw [h4] at hi1
  rw [hN] at hi0
  have HGB := Lib.hid hN
  have hsz := sizeL l
  have hcst : (((48 + N : Nat) : Int)) = 48 + (N : Int) := by omega
  rw [hcst] at hi0
  have hd2 : decide ((48 : Int) + (N : Int) < 49) = false := by rw [decide_eq_false_iff_not]; omega
  have hd3 : decide ((57 : Int) < (48 : Int) + (N : Int)) = false := by rw [decide_eq_false_iff_not]; omega
  have hw8 : IntKind.u8.wrap ((48 : Int) + (N : Int) - 48) = (N : Int) := by rw [IntKind.wrap_u8]; omega
  have hw9 : IntKind.i64.wrap (N : Int) = (N : Int) := IntWalk.i64_in _ (by omega)
  have hiA := fun k hk x hx => idx_at l k hk x hx
  obtain ⟨S, hS⟩ : ∃ S : ByteArray, S = ⟨l.toArray⟩ := ⟨_, rfl⟩
  rw [← hS] at hsz hi0 hi1 hiA ⊢
  have HS := Lib.hid hS
  have HIA := Lib.hid hiA
  obtain ⟨i0, hi, hz0, hz1, hz2⟩ := info_parts info_int
  clear hS hN hcst h1 h3 h4 hiA
  go_enter Tryd.func10, Tryd.ntmps10
  go_wp2_with (at_make; refine wpList_make_full _ rfl _ _ 23 rfl (w.heap.size + 1) 3 i0 (.int .i64 0) 1 Tryd.underlying23 hi hz0 hz1 .i64 .i64 _ _ N rfl rfl rfl rfl (by rw [hz2]; omega) (by unfold maxLen; omega) (by simp) ?_; intro w1 hown hgrow)
  simp only [World.size_alloc] at hown
  have hG : GI w w1 w1.heap.size N (Sw.pF l 0) := by
    have hb1 := below_of_grown hgrow (Nat.le_refl _) (fun g h => by cases h)
    obtain ⟨hb, hc, hz⟩ := box_after hb1
    exact ⟨made_zero hown, hb, hc, free_after hb1⟩
  have HG0 := Lib.hid hG
  clear hown hgrow hi hz0 hz1 hz2 hi0 hi1 hG hd2 hd3 hw8 hw9
  go_loopw [6] (fun i wr => ∃ (k : Nat) (x : Int), i = .int .i64 x ∧ x = 2 + 4 * (k : Int) ∧ k ≤ l.length ∧ (k = 0 ∨ 2 + 4 * (k - 1) < l.length) ∧ (∀ j, Sw.pF l k j < 2 ^ 9) ∧ GI w wr w1.heap.size N (Sw.pF l k)) (fun i _ => (l.length - intOf i).toNat)
  case atStart => exact ⟨0, 2, rfl, by omega, by omega, .inl rfl, fun j => Nat.two_pow_pos 9, HG0.out⟩
  case round =>
    obtain ⟨k, x, rfl, hx, hkl, hk0, hpf, hg⟩ := hrel
    have HG := Lib.hid hg
    have HPF := Lib.hid hpf
    clear hg hpf
    by_cases hlt : x < (l.length : Int)
    · have hdx : decide (x < (l.length : Int)) = true := decide_eq_true hlt
      have hx0 : 0 ≤ x := by omega
      have hi2 : 2 + 4 * k < l.length := by omega
      have hw3 : IntKind.i64.wrap (x + 3) = x + 3 := IntWalk.i64_in _ (by omega)
      have HOK : Hid (¬ Sw.okAt l N k → ∀ G, Sw.GVN G → Sw.gText G ≠ l) := fun h => Sw.no_line HGB.out hi2 h
      by_cases h3 : (l.length : Int) < x + 3
      · have hdx3 : decide ((l.length : Int) < x + 3) = true := decide_eq_true h3
        have HN := Lib.hid (Sw.vRd_no (HOK.out (fun q => by obtain ⟨q0, _⟩ := q; omega)))
        clear HOK hx
        obtain ⟨_, hbb, hcc, hff⟩ := HG.out
        have HB := Lib.hid (fun n u => (bdr hbb n).setCell (p := ⟨w.heap.size, 0, none⟩) (Nat.le_refl _) u)
        have HB0 := Lib.hid (fun u => hbb.setCell (p := ⟨w.heap.size, 0, none⟩) (Nat.le_refl _) u)
        have HC := Lib.hid (fun n u => World.cell?_setCell_same' (wr.drewN n) ⟨w.heap.size, 0, none⟩ u (by rw [World.cell?_drewN, hcc]; rfl))
        have HC0 := Lib.hid (fun u => World.cell?_setCell_same' wr ⟨w.heap.size, 0, none⟩ u (by rw [hcc]; rfl))
        clear hbb
        go_wp2_with fail
        exact bodyPost_ret (v := .tuple #[.agg #[.slice none 0 0], .bool false]) (by have q := HC0.out (.slice none 0 0); simp [results, Tryd.results10, go_sem, q]) rfl ⟨_, by rw [HN.out.1], by rw [HN.out.2]; exact OwnI.nil _, HB0.out _⟩
      · have hdx3 : decide ((l.length : Int) < x + 3) = false := decide_eq_false h3
        have hiA := HIA.out (2 + 4 * k) hi2 x (by omega)
        have hiB := HIA.out (4 + 4 * k) (by omega) (x + 2) (by omega)
        have hw2 : IntKind.i64.wrap (x + 2) = x + 2 := IntWalk.i64_in _ (by omega)
        have hA0 : Sw.pA l k = (Sw.gb l (2 + 4 * k) : Int) - 48 := rfl
        have hB0 : Sw.pB l k = (Sw.gb l (4 + 4 * k) : Int) - 48 := rfl
        have hA9 := Sw.gb_255 l (2 + 4 * k)
        have hB9 := Sw.gb_255 l (4 + 4 * k)
        have HPF2 := Lib.hid (Sw.pF_succ l k)
        obtain ⟨cA, hcA⟩ : ∃ c, c = Sw.gb l (2 + 4 * k) := ⟨_, rfl⟩
        obtain ⟨cB, hcB⟩ : ∃ c, c = Sw.gb l (4 + 4 * k) := ⟨_, rfl⟩
        rw [← hcA] at hiA hA0 hA9
        rw [← hcB] at hiB hB0 hB9
        have hwA : IntKind.i64.wrap (cA : Int) = (cA : Int) := IntWalk.i64_in _ (by omega)
        have hwB : IntKind.i64.wrap (cB : Int) = (cB : Int) := IntWalk.i64_in _ (by omega)
        have hwA2 : IntKind.i64.wrap ((cA : Int) - 48) = (cA : Int) - 48 := IntWalk.i64_in _ (by omega)
        have hwB2 : IntKind.i64.wrap ((cB : Int) - 48) = (cB : Int) - 48 := IntWalk.i64_in _ (by omega)
        have HOK2 : Hid ((cA : Int) - 48 < 0 ∨ (cB : Int) - 48 ≤ (cA : Int) - 48 ∨ (N : Int) ≤ (cB : Int) - 48 → ∀ G, Sw.GVN G → Sw.gText G ≠ l) := fun h => HOK.out (fun q => by obtain ⟨_, q1, q2, q3⟩ := q; rw [hA0] at q1 q2; rw [hB0] at q2 q3; omega)
        have HA0 := Lib.hid hA0
        have HB0 := Lib.hid hB0
        clear HOK hcA hcB hA0 hB0
        by_cases ha : (cA : Int) - 48 < 0
        · have hda : decide ((cA : Int) - 48 < 0) = true := decide_eq_true ha
          have HN := Lib.hid (Sw.vRd_no (HOK2.out (.inl ha)))
          clear HOK2 hx
          obtain ⟨_, hbb, hcc, hff⟩ := HG.out
          have HB := Lib.hid (fun n u => (bdr hbb n).setCell (p := ⟨w.heap.size, 0, none⟩) (Nat.le_refl _) u)
          have HB0 := Lib.hid (fun u => hbb.setCell (p := ⟨w.heap.size, 0, none⟩) (Nat.le_refl _) u)
          have HC := Lib.hid (fun n u => World.cell?_setCell_same' (wr.drewN n) ⟨w.heap.size, 0, none⟩ u (by rw [World.cell?_drewN, hcc]; rfl))
          have HC0 := Lib.hid (fun u => World.cell?_setCell_same' wr ⟨w.heap.size, 0, none⟩ u (by rw [hcc]; rfl))
          clear hbb
          go_wp2_with fail
          go_quiet (fail)
          go_wp2_with fail
          exact bodyPost_ret (v := .tuple #[.agg #[.slice none 0 0], .bool false]) (by have q := HC.out nq (.slice none 0 0); simp [results, Tryd.results10, go_sem, q]) rfl ⟨_, by rw [HN.out.1], by rw [HN.out.2]; exact OwnI.nil _, HB.out _ _⟩
        · have hda : decide ((cA : Int) - 48 < 0) = false := decide_eq_false ha
          by_cases hab : (cB : Int) - 48 ≤ (cA : Int) - 48
          · have hdb : decide ((cB : Int) - 48 ≤ (cA : Int) - 48) = true := decide_eq_true hab
            have HN := Lib.hid (Sw.vRd_no (HOK2.out (.inr (.inl hab))))
            clear HOK2 hx
            obtain ⟨_, hbb, hcc, hff⟩ := HG.out
            have HB := Lib.hid (fun n u => (bdr hbb n).setCell (p := ⟨w.heap.size, 0, none⟩) (Nat.le_refl _) u)
            have HB0 := Lib.hid (fun u => hbb.setCell (p := ⟨w.heap.size, 0, none⟩) (Nat.le_refl _) u)
            have HC := Lib.hid (fun n u => World.cell?_setCell_same' (wr.drewN n) ⟨w.heap.size, 0, none⟩ u (by rw [World.cell?_drewN, hcc]; rfl))
            have HC0 := Lib.hid (fun u => World.cell?_setCell_same' wr ⟨w.heap.size, 0, none⟩ u (by rw [hcc]; rfl))
            clear hbb
            go_wp2_with fail
            go_quiet (fail)
            go_wp2_with fail
            exact bodyPost_ret (v := .tuple #[.agg #[.slice none 0 0], .bool false]) (by have q := HC.out nq (.slice none 0 0); simp [results, Tryd.results10, go_sem, q]) rfl ⟨_, by rw [HN.out.1], by rw [HN.out.2]; exact OwnI.nil _, HB.out _ _⟩
          · have hdb : decide ((cB : Int) - 48 ≤ (cA : Int) - 48) = false := decide_eq_false hab
            by_cases hbn : (N : Int) ≤ (cB : Int) - 48
            · have hdn : decide ((N : Int) ≤ (cB : Int) - 48) = true := decide_eq_true hbn
              have HN := Lib.hid (Sw.vRd_no (HOK2.out (.inr (.inr hbn))))
              clear HOK2 hx
              obtain ⟨_, hbb, hcc, hff⟩ := HG.out
              have HB := Lib.hid (fun n u => (bdr hbb n).setCell (p := ⟨w.heap.size, 0, none⟩) (Nat.le_refl _) u)
              have HB0 := Lib.hid (fun u => hbb.setCell (p := ⟨w.heap.size, 0, none⟩) (Nat.le_refl _) u)
              have HC := Lib.hid (fun n u => World.cell?_setCell_same' (wr.drewN n) ⟨w.heap.size, 0, none⟩ u (by rw [World.cell?_drewN, hcc]; rfl))
              have HC0 := Lib.hid (fun u => World.cell?_setCell_same' wr ⟨w.heap.size, 0, none⟩ u (by rw [hcc]; rfl))
              clear hbb
              go_wp2_with fail
              go_quiet (fail)
              go_wp2_with fail
              exact bodyPost_ret (v := .tuple #[.agg #[.slice none 0 0], .bool false]) (by have q := HC.out nq (.slice none 0 0); simp [results, Tryd.results10, go_sem, q]) rfl ⟨_, by rw [HN.out.1], by rw [HN.out.2]; exact OwnI.nil _, HB.out _ _⟩
            · have hdn : decide ((N : Int) ≤ (cB : Int) - 48) = false := decide_eq_false hbn
              obtain ⟨a, hae⟩ : ∃ a : Nat, (cA : Int) - 48 = (a : Int) := ⟨cA - 48, by omega⟩
              obtain ⟨b, hbe⟩ : ∃ b : Nat, (cB : Int) - 48 = (b : Int) := ⟨cB - 48, by omega⟩
              have haN : a < N := by omega
              have hbN : b < N := by omega
              have hne : a ≠ b := by omega
              have hJ := fun W (h : GI w W w1.heap.size N (Sw.pF l k)) => h.call a b haN hbN hne hN9 HPF.out
              have HE : Hid (Sw.pF l (k + 1) = Sw.join (Sw.pF l k) a b) := by
                show _ = _
                rw [HPF2.out, HA0.out, HB0.out, hae, hbe]; rfl
              have HL : Hid (∀ j, Sw.pF l (k + 1) j < 2 ^ 9) := fun j => by rw [HE.out]; exact Sw.join_lt (by omega) (by omega) HPF.out j
              have hw4 : IntKind.i64.wrap (x + 4) = x + 4 := IntWalk.i64_in _ (by omega)
              have HX : Hid (x + 4 = 2 + 4 * ((k + 1 : Nat) : Int)) := by show _ = _; omega
              have hk2 : k + 1 ≤ l.length := by omega
              clear HOK2 hkl hk0 hx
              go_wp2_with fail
              go_quiet (fail)
              go_wp2_with fail
              refine (hJ _ (HG.out.draw nq)).mono ?_
              rintro e w3 ⟨rfl, hg3⟩
              have HG3 := Lib.hid hg3
              clear hg3
              go_wp2_with fail
              go_roundw
              case rel => exact ⟨k + 1, x + 4, by go_num, HX.out, hk2, .inr (by rw [Nat.add_sub_cancel]; exact hi2), HL.out, by rw [HE.out]; exact HG3.out⟩
              case measure => simp [intOf]; omega
    · have hdx : decide (x < (l.length : Int)) = false := decide_eq_false hlt
      have hNE := Sw.no_end HGB.out (i := k) (by omega) hk0
      obtain ⟨f, hf⟩ : ∃ f, f = Sw.pF l k := ⟨_, rfl⟩
      rw [← hf] at hNE HG HPF
      have HNE := Lib.hid hNE
      obtain ⟨hO, hbb, hcc, hff⟩ := HG.out
      have hrd : RdI wr wr.heap.size (some ⟨w.heap.size + 1, 0, none⟩) (Sw.toI (Sw.tab N f)) := by
        obtain ⟨A', c', e, hr⟩ := OwnI.rd hO
        injection e with e _ _
        subst e; exact hr
      have HT := fun W h => implGraphText (Sw.toI (Sw.tab N f)) (some ⟨w.heap.size + 1, 0, none⟩) N (by rw [Sw.toI_len, Sw.tab_len]; omega) W h
      rw [Sw.toI_len, Sw.tab_len] at HT
      have HO := Lib.hid hO
      have hbx := below1 (w := wr) (.cells #[.slice (some ⟨w.heap.size + 1, 0, none⟩) N N] 25)
      have hrd2 := hrd.at_ hbx
      have HTT := Lib.hid HT
      clear hf hNE hO hrd HT hkl hk0 hlt hx
      have HT := HTT.out
      go_wp2_with fail
      refine (HT _ hrd2).mono ?_
      rintro e w4 ⟨rfl, hb4⟩
      obtain ⟨hb4, hcx, hzx⟩ := box_after hb4
      have hsw : w.heap.size < wr.heap.size := World.block_lt_of_cell? wr _ hcc
      have hc4 : w4.cell? ⟨w.heap.size, 0, none⟩ = some (.slice none 0 0) := (hb4.cell (p := ⟨w.heap.size, 0, none⟩) hsw).trans hcc
      have hf4 : w4.frozen? ⟨w.heap.size, 0, none⟩ = false := (hb4.frozen (p := ⟨w.heap.size, 0, none⟩) hsw).trans hff
      have hB4 : Below w.heap.size w w4 := hbb.trans (hb4.mono hbb.size)
      have HB := Lib.hid (fun u => hB4.setCell (p := ⟨w.heap.size, 0, none⟩) (Nat.le_refl _) u)
      have HC := Lib.hid (fun u => World.cell?_setCell_same' w4 ⟨w.heap.size, 0, none⟩ u (by rw [hc4]; rfl))
      have hO4 := OwnI.below HO.out hb4 HO.out.2.1
      have HOF := Lib.hid (fun u => ((hO4.store_far (b := w.heap.size) (by omega) u).up.lo_ (lo' := w.heap.size) (by omega)))
      by_cases hT : Sw.vText (Sw.toI (Sw.tab N f)) = l
      · have hv : ∃ G, Sw.toI (Sw.tab N f) = Sw.toI G ∧ Sw.GVN G := by
          rcases Sw.gvB_cases (Sw.toI (Sw.tab N f)) with h | h
          · rw [Sw.vText_no h] at hT; rw [← hT] at h2; simp at h2
          · exact h
        obtain ⟨G, hGe, hG⟩ := hv
        have HV := Lib.hid (Sw.vRd_yes hG (l := l) (by rw [← hT, hGe, Sw.vText_yes hG]))
        have hq : (⟨(Sw.vText (Sw.toI (Sw.tab N f))).toArray⟩ : ByteArray) = S := by rw [hT, HS.out]
        rw [hq]
        have HGE := Lib.hid hGe
        clear hT hq hGe hB4 hbb hO4 hb4 hbx HT
        go_wp2_with fail
        exact bodyPost_ret (v := .tuple #[.agg #[.slice (some ⟨w.heap.size + 1, 0, none⟩) N N], .bool true]) (by have q := HC.out (.slice (some ⟨w.heap.size + 1, 0, none⟩) N N); simp [results, Tryd.results10, go_sem, q]) rfl ⟨_, by rw [HV.out.1], by rw [HV.out.2, ← HGE.out]; exact HOF.out _, HB.out _⟩
      · have HV := Lib.hid (Sw.vRd_no (l := l) (fun G hG e => hT (by rw [HNE.out G hG e, Sw.vText_yes hG]; exact e)))
        have hq : ((⟨(Sw.vText (Sw.toI (Sw.tab N f))).toArray⟩ : ByteArray).toList == S.toList) = false := by
          rw [beq_eq_false_iff_ne, HS.out]
          intro e
          refine hT ?_
          have := ByteArray_toList_inj e
          exact this
        obtain ⟨X, hX⟩ : ∃ X, X = (⟨(Sw.vText (Sw.toI (Sw.tab N f))).toArray⟩ : ByteArray) := ⟨_, rfl⟩
        rw [← hX] at hq ⊢
        clear hT hX hB4 hbb hO4 hb4 hbx HT
        go_wp2_with fail
        exact bodyPost_ret (v := .tuple #[.agg #[.slice none 0 0], .bool false]) (by have q := HC.out (.slice none 0 0); simp [results, Tryd.results10, go_sem, q]) rfl ⟨_, by rw [HV.out.1], by rw [HV.out.2]; exact OwnI.nil _, HB.out _⟩
theorem implReadGraph (l : List UInt8) (hl : l.length ≤ 4611686018427387904) (w : World) : Calls Tryd.prog 10 #[.string ⟨l.toArray⟩] w (RdPost w l) := by
  by_cases h2 : 2 ≤ l.length
  · by_cases h3 : 49 ≤ Sw.gb l 0
    · by_cases h4 : Sw.gb l 0 ≤ 57
      · by_cases h5 : Sw.gb l 1 = 58
        · exact implRead_5 l hl w h2 h3 h4 h5
        · exact implRead_4 l hl w h2 h3 h4 h5
      · exact implRead_3 l hl w h2 h3 (by omega)
    · exact implRead_2 l hl w h2 (by omega)
  · exact implRead_1 l hl w (by omega)
end Go.Proofs.YtmghnfadgnolpaaDoor

