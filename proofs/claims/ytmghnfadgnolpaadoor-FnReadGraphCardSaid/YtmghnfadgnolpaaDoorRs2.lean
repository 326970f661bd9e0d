/- The reference's ReadGraph by its contract, where the head fits. Conditions: at most 2^40 bytes. -/
import Derived.Test.YtmghnfadgnolpaaDoorRs
namespace Go.Proofs.YtmghnfadgnolpaaDoor
open Go.RowKit
theorem txt_ne {l : List UInt8} (h : l ≠ []) : ((⟨l.toArray⟩ : ByteArray).toList == (⟨#[]⟩ : ByteArray).toList) = false ∧ ((⟨l.toArray⟩ : ByteArray).toList == ([] : List UInt8)) = false ∧ (⟨l.toArray⟩ : ByteArray).toList.isEmpty = false := by
  refine ⟨?_, ?_, ?_⟩
  · rw [beq_eq_false_iff_ne, ByteArray.toList_eq, ByteArray.toList_eq]
    intro e; exact h (by simpa using e)
  · rw [beq_eq_false_iff_ne, ByteArray.toList_eq]
    intro e; exact h (by simpa using e)
  · rw [ByteArray.toList_eq]
    cases l with
    | nil => exact absurd rfl h
    | cons a t => rfl
theorem RSg.to {W : World} {lo' hi' g : Nat} {L : List (List UInt8)} (h : RSg W lo' hi' g L) {lo hi : Nat} (h1 : lo ≤ lo') (h2 : hi' ≤ hi) (h3 : hi ≤ W.heap.size) : RSg W lo hi g L := ⟨Nat.le_trans h1 h.1, Nat.lt_of_lt_of_le h.2.1 h2, h3, h.2.2.2⟩
theorem Sg.make {w w4 w5 : World} {N : Nat} (hown : w5.ownsRow w4.heap.size 3 1 (.slice (some ⟨w4.heap.size, 0, none⟩) N N) N (madeCells (Value.int .i64 0).cells (N * 1)).toList) (hg : w4.grownBy w5 none) (hw : w.heap.size < w4.heap.size) :
    Sg w (w5.alloc (.cells #[.slice (some ⟨w4.heap.size, 0, none⟩) N N] 25)) w5.heap.size (some ⟨w4.heap.size, 0, none⟩) N (List.replicate N 0) := by
  have hO := made_ints hown
  have hs := hg.size
  refine ⟨by omega, by simp, by rw [List.length_replicate]; exact cell_new _ _ _, free_new _ _ _, w4.heap.size, w5.heap.size, ?_, by omega, .inl (Nat.le_refl _)⟩
  rw [List.length_replicate]
  exact hO.below (below1 _) (Nat.le_refl _)
theorem OwnI.put_far {w : World} {lo hi : Nat} {v : Value} {l : List Int} (h : OwnI w lo hi v l) {b : Nat} (hb : b < lo ∨ hi ≤ b) (u : Value) : OwnI (w.setCell ⟨b, 0, none⟩ u) lo hi v l := by
  have g1 : w.grownBy (w.setCell ⟨b, 0, none⟩ u) (some b) := ⟨rfl, rfl, rfl, by simp [World.setCell], fun k _ hk => Below.heap_setCell _ _ _ _ (fun e => hk (by rw [e]))⟩
  exact h.grown g1 (fun g h => by injection h with h; omega)
set_option maxRecDepth 100000 in
set_option maxHeartbeats 8000000 in
theorem specRead_3 (l : List UInt8) (hl : l.length ≤ 1099511627776) (w : World) (hT : (Sw.cutL 58 l).length = 2) (N : Nat) (hD : Sw.digL ((Sw.cutL 58 l).getD 0 []) = (N : Int)) (hN1 : 1 ≤ N) (hN9 : N ≤ 9) : Calls Tryd.prog 13 #[.string ⟨l.toArray⟩] w (RdPost w l) := by
  have HSTEP := Lib.hid (fun k => Sw.no_step (k := k) hD)
  have HEND := Lib.hid (fun k g => Sw.yes_end (k := k) (g := g) hD)
  have HCT := Lib.hid (l1Cut 58 (by decide) l hl)
  have HL0 : Hid (l ≠ []) := by
    intro e
    rw [e] at hT
    have := (Sw.cutL_len 58 []).2
    rw [hT] at this
    exact absurd this (by decide)
  have hp0 : ((Sw.cutL 58 l).getD 0 []).length ≤ l.length := Sw.cutL_part (Sw.getD_mem (by omega))
  have hp1 : ((Sw.cutL 58 l).getD 1 []).length ≤ l.length := Sw.cutL_part (Sw.getD_mem (by omega))
  obtain ⟨T, hTe⟩ : ∃ T, T = Sw.cutL 58 l := ⟨_, rfl⟩
  rw [← hTe] at hT HCT hp0 hp1 hD HSTEP HEND
  have HDG := Lib.hid (l1Digits (T.getD 0 []) (by omega))
  unfold DigPost at HDG
  rw [hD] at HDG
  have HCB := Lib.hid (l1Cut 44 (by decide) (T.getD 1 []) (by omega))
  have HLP := Lib.hid (fun p => Sw.cutL_part (c := 44) (l := T.getD 1 []) (p := p))
  obtain ⟨p1, hp1e⟩ : ∃ p1, p1 = T.getD 1 [] := ⟨_, rfl⟩
  have HP1 := Lib.hid hp1e
  rw [← hp1e] at HCB HSTEP HEND hp1 HLP
  have hLS := Sw.cutL_len 44 p1
  obtain ⟨ls, hls⟩ : ∃ ls, ls = Sw.cutL 44 p1 := ⟨_, rfl⟩
  rw [← hls] at HCB HSTEP HEND hLS HLP
  obtain ⟨S, hS⟩ : ∃ S : ByteArray, S = ⟨l.toArray⟩ := ⟨_, rfl⟩
  rw [← hS] at HCT ⊢
  have HS := Lib.hid hS
  obtain ⟨P1, hP1⟩ : ∃ P : ByteArray, P = ⟨p1.toArray⟩ := ⟨_, rfl⟩
  have HPT := Lib.hid hP1
  rw [← hP1] at HCB
  clear hP1
  obtain ⟨i0, hi, hz0, hz1, hz2⟩ := info_parts info_int
  clear hS hTe hp0 hD hp1e hls
  go_enter Tryd.func13, Tryd.ntmps13
  go_wp2_with fail
  refine (HCT.out _).mono ?_
  rintro e w1 ⟨v1, rfl, hO1, hb1⟩
  have HB := Lib.hid (Bx.start hb1)
  obtain ⟨g1, c1, rfl, hR1⟩ := hO1.rs (by omega)
  have HR1 := Lib.hid hR1
  have hc0 := hR1.2.2.2 0 (by omega)
  obtain ⟨P0, hP0⟩ : ∃ P : ByteArray, P = ⟨(T.getD 0 []).toArray⟩ := ⟨_, rfl⟩
  rw [← hP0] at HDG hc0
  clear hO1 hb1 hR1 hP0
  rw [hT]
  have HTL := Lib.hid hT
  clear hT
  go_wp2_with fail
  refine (HDG.out _).mono ?_
  rintro e w2 ⟨rfl, rfl⟩
  go_wp2_with fail
  refine (l1In_yes (N : Int) 1 9 _ (by omega) (by omega)).mono ?_
  rintro e w3 ⟨rfl, rfl⟩
  go_wp2_with fail
  refine (HDG.out _).mono ?_
  rintro e w4 ⟨rfl, rfl⟩
  rename_i w4
  go_wp2_with (at_make; refine wpList_make_full _ rfl _ _ 23 rfl w4.heap.size 3 i0 (.int .i64 0) 1 Tryd.underlying23 hi hz0 hz1 .i64 .i64 _ _ N rfl rfl rfl rfl (by rw [hz2]; omega) (by unfold maxLen; omega) (by simp) ?_; intro w5 hown hgrow; have hb5 := below_of_grown hgrow (Nat.le_refl _) (fun g h => by cases h); have HB5 := Lib.hid ((HB.out.next hb5).next (below1 (.cells #[.slice (some ⟨w4.heap.size, 0, none⟩) N N] 25))); have hr5 := (HR1.out.next hb5 (Nat.le_refl _)).next (below1 (.cells #[.slice (some ⟨w4.heap.size, 0, none⟩) N N] 25)) hb5.size; have HR5 := Lib.hid (hr5.to (lo := w.heap.size + 1) (hi := w5.heap.size) (by simp) hb5.size (by simp)); have HSG5 := Lib.hid (Sg.make (N := N) hown hgrow HB.out.2.2.2); have hc1 := HR5.out.2.2.2 1 (by rw [HTL.out]; decide); rw [← HP1.out, ← HPT.out] at hc1; clear hown hgrow hb5 hr5 hi hz0 hz1 hz2 HB HR1 hc0 HCT HDG)
  refine (HCB.out _).mono ?_
  rintro e w6 ⟨v3, rfl, hO3, hb3⟩
  have HB6 := Lib.hid (HB5.out.next hb3)
  have HR6 := Lib.hid (HR5.out.next hb3 (by simp))
  have HSG6 := Lib.hid (HSG5.out.next hb3)
  obtain ⟨g3, c3, rfl, hR3⟩ := hO3.rs hLS.1
  simp only [World.size_alloc] at hR3
  have HR3 := Lib.hid hR3
  have HLS := Lib.hid hLS
  clear hO3 hb3 hR3 HB5 HR5 HSG5 hc1 hLS
  go_wp2_with fail
  go_loopw [7] (fun i wr => ∃ (k : Nat) (g : List Int) (A : Option Addr) (c : Nat), i = .int .i64 k ∧ k ≤ ls.length ∧ (k = 0 ∨ p1 ≠ []) ∧ Sw.rdS N ls k = some g ∧ g.length ≤ 9 ∧ Bx w wr ∧ RSg wr (w.heap.size + 1) w5.heap.size g1 T ∧ RSg wr (w5.heap.size + 1) w6.heap.size g3 ls ∧ Sg w wr w5.heap.size A c g) (fun i _ => (ls.length - intOf i).toNat)
  case atStart => exact ⟨0, _, _, _, rfl, Nat.zero_le _, .inl rfl, rfl, by rw [List.length_replicate]; exact hN9, HB6.out, HR6.out, HR3.out, HSG6.out⟩
  case round =>
    obtain ⟨k, g, A, c, rfl, hk, hkp, hrd, hg9, hbx, hr1, hr3, hsg⟩ := hrel
    have HRD := Lib.hid hrd
    have HBX := Lib.hid hbx
    have HR1b := Lib.hid hr1
    have HR3b := Lib.hid hr3
    have HSG := Lib.hid hsg
    have hc1 := hr1.2.2.2 1 (by rw [HTL.out]; decide)
    rw [← HP1.out, ← HPT.out] at hc1
    obtain ⟨_, _, hsc, hsf, _⟩ := hsg
    have hLL := HLS.out.2
    clear hrd hbx hr1 hr3
    by_cases hlt : k < ls.length
    · have hdx : decide ((k : Int) < (ls.length : Int)) = true := by rw [decide_eq_true_eq]; omega
      by_cases hp : p1 = []
      · have HE := Lib.hid (HEND.out k g (.inr ⟨hp, by rcases hkp with q | q; exact q; exact absurd hp q⟩) HRD.out)
        have hPc : P1 = ⟨([] : List UInt8).toArray⟩ := by rw [HPT.out, hp]
        subst hPc
        clear hkp hk hLL
        have hTX := specGraphText g A c (by omega)
        have HTX := Lib.hid hTX
        clear hTX
        obtain ⟨_, hcc, hff, _⟩ := HBX.out
        have hTX := HTX.out
        go_wp2_with fail
        refine (hTX _ HSG.out.rd).mono ?_
        rintro e w7 ⟨rfl, hb7⟩
        have HB7 := Lib.hid (HBX.out.next hb7)
        have HSG7 := Lib.hid (HSG.out.next hb7)
        obtain ⟨_, hcc, hff, _⟩ := HB7.out
        have hsc := HSG7.out.2.2.1
        have HC := Lib.hid (Bx.fill HB7.out)
        clear hTX hb7
        by_cases hT : Sw.vText g = l
        · have hv : ∃ G, g = Sw.toI G ∧ Sw.GVN G := by
            rcases Sw.gvB_cases g with h | h
            · rw [Sw.vText_no h] at hT; exact absurd hT.symm HL0.out
            · exact h
          obtain ⟨G, hGe, hG⟩ := hv
          have HV := Lib.hid (Sw.vRd_yes hG (l := l) (by rw [← hT, hGe, Sw.vText_yes hG]))
          have hq : (⟨(Sw.vText g).toArray⟩ : ByteArray) = S := by rw [hT, HS.out]
          rw [hq]
          have HGE := Lib.hid hGe
          clear hT hq hGe
          go_wp2_with fail
          exact bodyPost_ret (v := .tuple #[.agg #[.slice A g.length c], .bool true]) (by have q := HC.out (.slice A g.length c); simp [results, Tryd.results13, go_sem, q]) rfl ⟨_, by rw [HV.out.1], by rw [HV.out.2, ← HGE.out]; exact Sg.out HSG7.out _, Bx.filled HB7.out _⟩
        · have HV := Lib.hid (Sw.vRd_no (l := l) (fun G hG e => hT (by rw [← HE.out G hG e, Sw.vText_yes hG]; exact e)))
          have hq : ((⟨(Sw.vText g).toArray⟩ : ByteArray).toList == S.toList) = false := by
            rw [beq_eq_false_iff_ne, HS.out]
            intro e
            exact hT (ByteArray_toList_inj e)
          obtain ⟨X, hX⟩ : ∃ X, X = (⟨(Sw.vText g).toArray⟩ : ByteArray) := ⟨_, rfl⟩
          rw [← hX] at hq ⊢
          clear hT hX
          go_wp2_with fail
          exact bodyPost_ret (v := .tuple #[.agg #[.slice none 0 0], .bool false]) (by have q := HC.out (.slice none 0 0); simp [results, Tryd.results13, go_sem, q]) rfl ⟨_, by rw [HV.out.1], by rw [HV.out.2]; exact OwnI.nil _, Bx.filled HB7.out _⟩
      · obtain ⟨hP1, hP2, hP3⟩ := txt_ne hp
        rw [← HPT.out] at hP1 hP2 hP3
        clear hkp
        have HK1 : Hid (k + 1 ≤ ls.length) := hlt
        have hck := HR3b.out.2.2.2 k hlt
        have hpk : (ls.getD k []).length ≤ p1.length := HLP.out _ (Sw.getD_mem hlt)
        have HBAD := Lib.hid (fun q => HSTEP.out k hp hlt (Sw.rdS_bad HRD.out q))
        have HGOOD := Lib.hid (fun q1 q2 => Sw.rdS_ok HRD.out q1 q2)
        have HCE := Lib.hid (l1Cut 45 (by decide) (ls.getD k []) (by omega))
        have hEL := (Sw.cutL_len 45 (ls.getD k [])).1
        have HEP := Lib.hid (fun p => Sw.cutL_part (c := 45) (l := ls.getD k []) (p := p))
        have hEe : Sw.endsOf ls k = Sw.cutL 45 (ls.getD k []) := rfl
        obtain ⟨pk, hpke⟩ : ∃ pk, pk = ls.getD k [] := ⟨_, rfl⟩
        rw [← hpke] at hck hpk HCE hEL HEP hEe
        obtain ⟨E, hE⟩ : ∃ E, E = Sw.cutL 45 pk := ⟨_, rfl⟩
        rw [← hE] at HCE hEL HEP hEe
        rw [hEe] at HBAD HGOOD
        obtain ⟨Pk, hPk⟩ : ∃ P : ByteArray, P = ⟨pk.toArray⟩ := ⟨_, rfl⟩
        rw [← hPk] at hck HCE
        clear hpke hE hEe hPk
        go_wp2_with fail
        refine (HCE.out _).mono ?_
        rintro e w7 ⟨v7, rfl, hO7, hb7⟩
        have HB7 := Lib.hid (HBX.out.next hb7)
        have HR1c := Lib.hid (HR1b.out.next hb7 HR1b.out.2.2.1)
        have HR3c := Lib.hid (HR3b.out.next hb7 HR3b.out.2.2.1)
        have HSG7 := Lib.hid (HSG.out.next hb7)
        obtain ⟨g7, c7, rfl, hR7⟩ := hO7.rs hEL
        have HR7 := Lib.hid hR7
        clear hO7 hb7 hR7 hck hc1 hP1 hP2 hP3 hsc hsf HCE HBX HR1b HR3b HSG
        by_cases hE2 : E.length = 2
        · have he0 := HR7.out.2.2.2 0 (by omega)
          have he1 := HR7.out.2.2.2 1 (by omega)
          have hsc := HSG7.out.2.2.1
          have h7g : g7 < w7.heap.size := HR7.out.2.1
          have h5g : w5.heap.size < w7.heap.size := HSG7.out.2.1
          have hE0 := HEP.out (E.getD 0 []) (Sw.getD_mem (by omega))
          have hE1 := HEP.out (E.getD 1 []) (Sw.getD_mem (by omega))
          have HD0 := Lib.hid (l1Digits (E.getD 0 []) (by omega))
          have HD1 := Lib.hid (l1Digits (E.getD 1 []) (by omega))
          unfold DigPost at HD0 HD1
          have HGOOD2 := Lib.hid (fun q => HGOOD.out hE2 q)
          have HBAD2 := Lib.hid (fun q => HBAD.out (.inr q))
          obtain ⟨d0, hd0⟩ : ∃ d, d = Sw.digL (E.getD 0 []) := ⟨_, rfl⟩
          obtain ⟨d1, hd1⟩ : ∃ d, d = Sw.digL (E.getD 1 []) := ⟨_, rfl⟩
          rw [← hd0] at HD0 HGOOD2 HBAD2
          rw [← hd1] at HD1 HGOOD2 HBAD2
          obtain ⟨E0, hE0e⟩ : ∃ P : ByteArray, P = ⟨(E.getD 0 []).toArray⟩ := ⟨_, rfl⟩
          obtain ⟨E1, hE1e⟩ : ∃ P : ByteArray, P = ⟨(E.getD 1 []).toArray⟩ := ⟨_, rfl⟩
          rw [← hE0e] at HD0 he0
          rw [← hE1e] at HD1 he1
          have HLN := Lib.hid (fun W h => specLineSet g A c d0 d1 true (by omega) W h)
          have hv9 := Sw.vLine_len g d0 d1 true
          obtain ⟨ok, hok⟩ : ∃ ok, ok = Sw.vLineB g d0 d1 := ⟨_, rfl⟩
          obtain ⟨g2, hg2⟩ : ∃ g2, g2 = Sw.vLine g d0 d1 true := ⟨_, rfl⟩
          rw [← hok] at HLN HGOOD2 HBAD2
          rw [← hg2] at HLN HGOOD2 hv9
          have hrd7 := HSG7.out.rd
          rw [hE2]
          clear hd0 hd1 hE0e hE1e hok hg2 hE0 hE1 HBAD HGOOD HEP hEL hE2
          go_wp2_with fail
          have HKS : ∀ W, Below w7.heap.size w7 W → W.cell? ⟨g7, 0, none⟩ = some (.string E0) ∧ W.cell? ⟨g7, 1, none⟩ = some (.string E1) ∧ W.cell? ⟨w5.heap.size, 0, none⟩ = some (.slice A g.length c) := fun W hb => ⟨(hb.cell (p := ⟨g7, 0, none⟩) h7g).trans he0, (hb.cell (p := ⟨g7, 1, none⟩) h7g).trans he1, (hb.cell (p := ⟨w5.heap.size, 0, none⟩) h5g).trans hsc⟩
          refine wp_region_held_drew (S := fun W => W.cell? ⟨g7, 0, none⟩ = some (.string E0) ∧ W.cell? ⟨g7, 1, none⟩ = some (.string E1) ∧ W.cell? ⟨w5.heap.size, 0, none⟩ = some (.slice A g.length c)) (by kernel_rfl) ⟨he0, he1, hsc⟩ (fun hHeld => ?_)
          have hbW0 : Below w7.heap.size w7 w7.drew := bdr (Below.refl _ _) 1
          obtain ⟨W7, hW7⟩ : ∃ V, V = w7.drew := ⟨_, rfl⟩
          have HSW : Hid (W7.heap.size = w7.heap.size) := by (show _ = _); rw [hW7]; rfl
          rw [← hW7] at hbW0 hHeld ⊢
          clear hW7
          refine wpAnyH_take (i := 0) (v := (.agg #[.slice A g.length c])) rfl (by kernel_rfl) (by kernel_rfl) (by kernel_rfl) (fun _ _ _ h => h) (Or.inl ⟨by kernel_rfl, fun w hSw => by ((try dsimp only at hSw); (try obtain ⟨hSw1, hSw2, hSw3⟩ := hSw); go_simp)⟩) (by assumption) ?_
          refine wpAnyH_take (i := 1) (v := (.slice (some ⟨g7, 0, none⟩) 2 c7)) rfl (by kernel_rfl) (by kernel_rfl) (by kernel_rfl) (fun _ _ _ h => h) (Or.inl ⟨by kernel_rfl, fun w hSw => by ((try dsimp only at hSw); (try obtain ⟨hSw1, hSw2, hSw3⟩ := hSw); go_simp)⟩) (by assumption) ?_
          refine wpAnyH_take (i := 2) (v := (.pointer (some ⟨g7, 0, none⟩))) rfl (by kernel_rfl) (by kernel_rfl) (by kernel_rfl) (fun _ _ _ h => h) (Or.inl ⟨by kernel_rfl, fun w hSw => by ((try dsimp only at hSw); (try obtain ⟨hSw1, hSw2, hSw3⟩ := hSw); go_simp)⟩) (by assumption) ?_
          refine wpAnyH_take (i := 3) (v := (.string E0)) rfl (by kernel_rfl) (by kernel_rfl) (by kernel_rfl) (fun _ _ _ h => h) (Or.inl ⟨by kernel_rfl, fun w hSw => by ((try dsimp only at hSw); (try obtain ⟨hSw1, hSw2, hSw3⟩ := hSw); go_simp)⟩) (by assumption) ?_
          refine wpAnyH_take (i := 5) (v := (.slice (some ⟨g7, 0, none⟩) 2 c7)) rfl (by kernel_rfl) (by kernel_rfl) (by kernel_rfl) (fun _ _ _ h => h) (Or.inl ⟨by kernel_rfl, fun w hSw => by ((try dsimp only at hSw); (try obtain ⟨hSw1, hSw2, hSw3⟩ := hSw); go_simp)⟩) (by assumption) ?_
          refine wpAnyH_take (i := 6) (v := (.pointer (some ⟨g7, 1, none⟩))) rfl (by kernel_rfl) (by kernel_rfl) (by kernel_rfl) (fun _ _ _ h => h) (Or.inl ⟨by kernel_rfl, fun w hSw => by ((try dsimp only at hSw); (try obtain ⟨hSw1, hSw2, hSw3⟩ := hSw); go_simp)⟩) (by assumption) ?_
          refine wpAnyH_take (i := 7) (v := (.string E1)) rfl (by kernel_rfl) (by kernel_rfl) (by kernel_rfl) (fun _ _ _ h => h) (Or.inl ⟨by kernel_rfl, fun w hSw => by ((try dsimp only at hSw); (try obtain ⟨hSw1, hSw2, hSw3⟩ := hSw); go_simp)⟩) (by assumption) ?_
          refine wpAnyH_ready (rs := [4, 13]) (by kernel_rfl) (by simp) ?_
          refine AllReadyH.cons rfl (fun K0 hK0 => ?_) (AllReadyH.cons rfl (fun K0 hK0 => ?_) AllReadyH.nil)
          · go_simp
            refine (HD0.out _).mono ?_
            rintro e w8 ⟨rfl, hw8⟩
            subst w8
            try go_wp2_with fail
            refine hK0.out _ _ (HKS _ (by exact hbW0)) (fun hHeld2 => ?_)
            clear hK0 K0
            refine wpAnyH_ready (rs := [8, 13]) (by kernel_rfl) (by simp) ?_
            refine AllReadyH.cons rfl (fun K0 hK0 => ?_) (AllReadyH.cons rfl (fun K0 hK0 => ?_) AllReadyH.nil)
            · go_simp
              refine (HD1.out _).mono ?_
              rintro e w8 ⟨rfl, hw8⟩
              subst w8
              try go_wp2_with fail
              refine hK0.out _ _ (HKS _ (by exact hbW0)) (fun hHeld2 => ?_)
              clear hK0 K0
              refine wpAnyH_ready (rs := [9, 13]) (by kernel_rfl) (by simp) ?_
              refine AllReadyH.cons rfl (fun K0 hK0 => ?_) (AllReadyH.cons rfl (fun K0 hK0 => ?_) AllReadyH.nil)
              · go_simp
                refine (HLN.out _ (hrd7.at_ hbW0)).mono ?_
                rintro e w8 ⟨v8, rfl, hO8, hb8⟩
                obtain ⟨A8, c8, rfl, _⟩ := hO8.rd
                have hbw : Below w7.heap.size w7 w8 := hbW0.trans (hb8.mono (by have := hbW0.size; exact this))
                have hs8 := hb8.size
                try go_wp2_with fail
                refine hK0.out _ _ (HKS _ (by exact hbw)) (fun hHeld2 => ?_)
                clear hK0 K0
                refine wpAnyH_take (i := 10) (v := (.tuple #[.agg #[(.slice A8 g2.length c8)], .bool ok])) rfl (by kernel_rfl) (by kernel_rfl) (by kernel_rfl) (fun _ _ _ h => h) (Or.inl ⟨by kernel_rfl, fun w hSw => by ((try dsimp only at hSw); (try obtain ⟨hSw1, hSw2, hSw3⟩ := hSw); go_simp)⟩) (by assumption) ?_
                refine wpAnyH_take (i := 11) (v := (.agg #[(.slice A8 g2.length c8)])) rfl (by kernel_rfl) (by kernel_rfl) (by kernel_rfl) (fun _ _ _ h => h) (Or.inl ⟨by kernel_rfl, fun w hSw => by ((try dsimp only at hSw); (try obtain ⟨hSw1, hSw2, hSw3⟩ := hSw); go_simp)⟩) (by assumption) ?_
                refine wpAnyH_take (i := 12) (v := (.bool ok)) rfl (by kernel_rfl) (by kernel_rfl) (by kernel_rfl) (fun _ _ _ h => h) (Or.inl ⟨by kernel_rfl, fun w hSw => by ((try dsimp only at hSw); (try obtain ⟨hSw1, hSw2, hSw3⟩ := hSw); go_simp)⟩) (by assumption) ?_
                refine wpAnyH_ready (rs := [13]) (by kernel_rfl) (by simp) ?_
                refine AllReadyH.cons rfl (fun K0 hK0 => ?_) AllReadyH.nil
                go_simp
                have hA0 : Below w7.heap.size w7 (w8.alloc (.cells #[.slice none 0 0] 25)) := hbw.trans ((below1 _).mono (by have := hbw.size; exact this))
                have hcA : (w8.alloc (.cells #[.slice none 0 0] 25)).cell? ⟨w8.heap.size, 0, none⟩ = some (.slice none 0 0) := cell_new _ _ _
                have hfA : (w8.alloc (.cells #[.slice none 0 0] 25)).frozen? ⟨w8.heap.size, 0, none⟩ = false := free_new _ _ _
                have hzA : w8.heap.size < (w8.alloc (.cells #[.slice none 0 0] 25)).heap.size := by simp
                have hA8 : Below w8.heap.size w8 (w8.alloc (.cells #[.slice none 0 0] 25)) := below1 _
                obtain ⟨Wa, hWa⟩ : ∃ V, V = w8.alloc (.cells #[.slice none 0 0] 25) := ⟨_, rfl⟩
                simp only [← hWa] at hA0 hcA hfA hzA hA8 ⊢
                clear hWa
                refine hK0.out _ _ (HKS _ (by exact hA0)) (fun hHeld2 => ?_)
                clear hK0 K0
                refine wpAnyH_ready (rs := [14]) (by kernel_rfl) (by simp) ?_
                refine AllReadyH.cons rfl (fun K0 hK0 => ?_) AllReadyH.nil
                have hF : Below w7.heap.size w7 (Wa.setCell ⟨w8.heap.size, 0, none⟩ (.slice A8 g2.length c8)) := hA0.setCell (p := ⟨w8.heap.size, 0, none⟩) (by have := hbw.size; exact this) _
                have hc9 : (Wa.setCell ⟨w8.heap.size, 0, none⟩ (.slice A8 g2.length c8)).cell? ⟨w8.heap.size, 0, none⟩ = some (.slice A8 g2.length c8) := World.cell?_setCell_same' Wa ⟨w8.heap.size, 0, none⟩ _ (by rw [hcA]; rfl)
                go_simp
                refine hK0.out _ _ (HKS _ (by exact hF)) (fun hHeld2 => ?_)
                clear hK0 K0
                refine wpAnyH_take (i := 15) (v := (.bool ok)) rfl (by kernel_rfl) (by kernel_rfl) (by kernel_rfl) (fun _ _ _ h => h) (Or.inl ⟨by kernel_rfl, fun w hSw => by ((try dsimp only at hSw); (try obtain ⟨hSw1, hSw2, hSw3⟩ := hSw); go_simp)⟩) (by assumption) ?_
                refine wpAnyH_done (by kernel_rfl) ?_ _
                have HO9 : Hid (∃ lo hi, OwnI (Wa.setCell ⟨w8.heap.size, 0, none⟩ (.slice A8 g2.length c8)) lo hi (.slice A8 g2.length c8) g2 ∧ w5.heap.size + 1 ≤ lo) := ⟨_, _, (hO8.below hA8 (Nat.le_refl _)).put_far (.inr (Nat.le_refl _)) _, by have := h5g; have : W7.heap.size = w7.heap.size := HSW.out; omega⟩
                obtain ⟨Wf, hWf⟩ : ∃ V, V = (Wa.setCell ⟨w8.heap.size, 0, none⟩ (.slice A8 g2.length c8)) := ⟨_, rfl⟩
                simp only [← hWf] at hF hc9 HO9 ⊢
                have HF := Lib.hid hF
                have HBf := Lib.hid (HB7.out.next hF)
                obtain ⟨_, hcc, hff, _⟩ := HBf.out
                obtain ⟨_, _, hscf, hsff, _⟩ := (HSG7.out.next hF)
                clear hWf hF
                clear hcA hfA hzA hA0 hbw hb8 hO8
                clear he0 he1 hsc HKS hrd7 hHeld
                cases ok
                · have HNO := Lib.hid (HBAD2.out rfl)
                  have HN := Lib.hid (Sw.vRd_no (HNO.out))
                  obtain ⟨_, hcc, hff, _⟩ := HBf.out
                  have HC := Lib.hid (Bx.fill HBf.out)
                  go_wp2_with fail
                  exact bodyPost_ret (v := .tuple #[.agg #[.slice none 0 0], .bool false]) (by have q := HC.out (.slice none 0 0); simp [results, Tryd.results13, go_sem, q]) rfl ⟨_, by rw [HN.out.1], by rw [HN.out.2]; exact OwnI.nil _, Bx.filled HBf.out _⟩
                · obtain ⟨lo9, hi9, ho9, hl9⟩ := HO9.out
                  have HP := Lib.hid ((HSG7.out.next HF.out).put ho9 hl9)
                  have HG2 := Lib.hid (HGOOD2.out rfl)
                  clear ho9 hl9 HO9 HBAD2 HGOOD2
                  go_wp2_with fail
                  go_roundw
                  case rel => exact ⟨k + 1, g2, A8, c8, by go_num, HK1.out, .inr hp, HG2.out, hv9, HBf.out.store HSG7.out.1 _, (HR1c.out.next HF.out (Nat.le_of_lt h5g)).store (.inr (Nat.le_refl _)) _, (HR3c.out.next HF.out HR3c.out.2.2.1).store (.inl (Nat.lt_succ_self _)) _, HP.out⟩
                  case measure => simp [intOf]; omega
              · go_simp
                have hA0 : Below w7.heap.size w7 (W7.alloc (.cells #[.slice none 0 0] 25)) := hbW0.trans ((below1 _).mono (by have := hbW0.size; exact this))
                have hcA : (W7.alloc (.cells #[.slice none 0 0] 25)).cell? ⟨W7.heap.size, 0, none⟩ = some (.slice none 0 0) := cell_new _ _ _
                have hfA : (W7.alloc (.cells #[.slice none 0 0] 25)).frozen? ⟨W7.heap.size, 0, none⟩ = false := free_new _ _ _
                have hzA : W7.heap.size < (W7.alloc (.cells #[.slice none 0 0] 25)).heap.size := by simp
                have hA8 : Below W7.heap.size W7 (W7.alloc (.cells #[.slice none 0 0] 25)) := below1 _
                obtain ⟨Wa, hWa⟩ : ∃ V, V = W7.alloc (.cells #[.slice none 0 0] 25) := ⟨_, rfl⟩
                simp only [← hWa] at hA0 hcA hfA hzA hA8 ⊢
                clear hWa
                refine hK0.out _ _ (HKS _ (by exact hA0)) (fun hHeld2 => ?_)
                clear hK0 K0
                refine wpAnyH_ready (rs := [9]) (by kernel_rfl) (by simp) ?_
                refine AllReadyH.cons rfl (fun K0 hK0 => ?_) AllReadyH.nil
                go_simp
                refine (HLN.out _ (hrd7.at_ hA0)).mono ?_
                rintro e w8 ⟨v8, rfl, hO8, hb8⟩
                obtain ⟨A8, c8, rfl, _⟩ := hO8.rd
                have hbw : Below w7.heap.size w7 w8 := hA0.trans (hb8.mono (by have := hA0.size; exact this))
                have hs8 := hb8.size
                try go_wp2_with fail
                refine hK0.out _ _ (HKS _ (by exact hbw)) (fun hHeld2 => ?_)
                clear hK0 K0
                refine wpAnyH_take (i := 10) (v := (.tuple #[.agg #[(.slice A8 g2.length c8)], .bool ok])) rfl (by kernel_rfl) (by kernel_rfl) (by kernel_rfl) (fun _ _ _ h => h) (Or.inl ⟨by kernel_rfl, fun w hSw => by ((try dsimp only at hSw); (try obtain ⟨hSw1, hSw2, hSw3⟩ := hSw); go_simp)⟩) (by assumption) ?_
                refine wpAnyH_take (i := 11) (v := (.agg #[(.slice A8 g2.length c8)])) rfl (by kernel_rfl) (by kernel_rfl) (by kernel_rfl) (fun _ _ _ h => h) (Or.inl ⟨by kernel_rfl, fun w hSw => by ((try dsimp only at hSw); (try obtain ⟨hSw1, hSw2, hSw3⟩ := hSw); go_simp)⟩) (by assumption) ?_
                refine wpAnyH_take (i := 12) (v := (.bool ok)) rfl (by kernel_rfl) (by kernel_rfl) (by kernel_rfl) (fun _ _ _ h => h) (Or.inl ⟨by kernel_rfl, fun w hSw => by ((try dsimp only at hSw); (try obtain ⟨hSw1, hSw2, hSw3⟩ := hSw); go_simp)⟩) (by assumption) ?_
                refine wpAnyH_ready (rs := [14]) (by kernel_rfl) (by simp) ?_
                refine AllReadyH.cons rfl (fun K0 hK0 => ?_) AllReadyH.nil
                have hc8 : w8.cell? ⟨W7.heap.size, 0, none⟩ = some (.slice none 0 0) := (hb8.cell (p := ⟨W7.heap.size, 0, none⟩) hzA).trans hcA
                have hf8 : w8.frozen? ⟨W7.heap.size, 0, none⟩ = false := (hb8.frozen (p := ⟨W7.heap.size, 0, none⟩) hzA).trans hfA
                have hF : Below w7.heap.size w7 (w8.setCell ⟨W7.heap.size, 0, none⟩ (.slice A8 g2.length c8)) := hbw.setCell (p := ⟨W7.heap.size, 0, none⟩) (Nat.le_of_eq (Eq.symm HSW.out)) _
                have hc9 : (w8.setCell ⟨W7.heap.size, 0, none⟩ (.slice A8 g2.length c8)).cell? ⟨W7.heap.size, 0, none⟩ = some (.slice A8 g2.length c8) := World.cell?_setCell_same' w8 ⟨W7.heap.size, 0, none⟩ _ (by rw [hc8]; rfl)
                go_simp
                refine hK0.out _ _ (HKS _ (by exact hF)) (fun hHeld2 => ?_)
                clear hK0 K0
                refine wpAnyH_take (i := 15) (v := (.bool ok)) rfl (by kernel_rfl) (by kernel_rfl) (by kernel_rfl) (fun _ _ _ h => h) (Or.inl ⟨by kernel_rfl, fun w hSw => by ((try dsimp only at hSw); (try obtain ⟨hSw1, hSw2, hSw3⟩ := hSw); go_simp)⟩) (by assumption) ?_
                refine wpAnyH_done (by kernel_rfl) ?_ _
                have HO9 : Hid (∃ lo hi, OwnI (w8.setCell ⟨W7.heap.size, 0, none⟩ (.slice A8 g2.length c8)) lo hi (.slice A8 g2.length c8) g2 ∧ w5.heap.size + 1 ≤ lo) := ⟨_, _, hO8.put_far (.inl (by exact hzA)) _, by have := hA0.size; have := h5g; have : W7.heap.size = w7.heap.size := HSW.out; omega⟩
                obtain ⟨Wf, hWf⟩ : ∃ V, V = (w8.setCell ⟨W7.heap.size, 0, none⟩ (.slice A8 g2.length c8)) := ⟨_, rfl⟩
                simp only [← hWf] at hF hc9 HO9 ⊢
                have HF := Lib.hid hF
                have HBf := Lib.hid (HB7.out.next hF)
                obtain ⟨_, hcc, hff, _⟩ := HBf.out
                obtain ⟨_, _, hscf, hsff, _⟩ := (HSG7.out.next hF)
                clear hWf hF
                clear hA0 hcA hfA hzA hb8 hO8 hbw hc8 hf8
                clear he0 he1 hsc HKS hrd7 hHeld
                cases ok
                · have HNO := Lib.hid (HBAD2.out rfl)
                  have HN := Lib.hid (Sw.vRd_no (HNO.out))
                  obtain ⟨_, hcc, hff, _⟩ := HBf.out
                  have HC := Lib.hid (Bx.fill HBf.out)
                  go_wp2_with fail
                  exact bodyPost_ret (v := .tuple #[.agg #[.slice none 0 0], .bool false]) (by have q := HC.out (.slice none 0 0); simp [results, Tryd.results13, go_sem, q]) rfl ⟨_, by rw [HN.out.1], by rw [HN.out.2]; exact OwnI.nil _, Bx.filled HBf.out _⟩
                · obtain ⟨lo9, hi9, ho9, hl9⟩ := HO9.out
                  have HP := Lib.hid ((HSG7.out.next HF.out).put ho9 hl9)
                  have HG2 := Lib.hid (HGOOD2.out rfl)
                  clear ho9 hl9 HO9 HBAD2 HGOOD2
                  go_wp2_with fail
                  go_roundw
                  case rel => exact ⟨k + 1, g2, A8, c8, by go_num, HK1.out, .inr hp, HG2.out, hv9, HBf.out.store HSG7.out.1 _, (HR1c.out.next HF.out (Nat.le_of_lt h5g)).store (.inr (Nat.le_refl _)) _, (HR3c.out.next HF.out HR3c.out.2.2.1).store (.inl (Nat.lt_succ_self _)) _, HP.out⟩
                  case measure => simp [intOf]; omega
            · go_simp
              have hA0 : Below w7.heap.size w7 (W7.alloc (.cells #[.slice none 0 0] 25)) := hbW0.trans ((below1 _).mono (by have := hbW0.size; exact this))
              have hcA : (W7.alloc (.cells #[.slice none 0 0] 25)).cell? ⟨W7.heap.size, 0, none⟩ = some (.slice none 0 0) := cell_new _ _ _
              have hfA : (W7.alloc (.cells #[.slice none 0 0] 25)).frozen? ⟨W7.heap.size, 0, none⟩ = false := free_new _ _ _
              have hzA : W7.heap.size < (W7.alloc (.cells #[.slice none 0 0] 25)).heap.size := by simp
              have hA8 : Below W7.heap.size W7 (W7.alloc (.cells #[.slice none 0 0] 25)) := below1 _
              obtain ⟨Wa, hWa⟩ : ∃ V, V = W7.alloc (.cells #[.slice none 0 0] 25) := ⟨_, rfl⟩
              simp only [← hWa] at hA0 hcA hfA hzA hA8 ⊢
              clear hWa
              refine hK0.out _ _ (HKS _ (by exact hA0)) (fun hHeld2 => ?_)
              clear hK0 K0
              refine wpAnyH_ready (rs := [8]) (by kernel_rfl) (by simp) ?_
              refine AllReadyH.cons rfl (fun K0 hK0 => ?_) AllReadyH.nil
              go_simp
              refine (HD1.out _).mono ?_
              rintro e w8 ⟨rfl, hw8⟩
              subst w8
              try go_wp2_with fail
              refine hK0.out _ _ (HKS _ (by exact hA0)) (fun hHeld2 => ?_)
              clear hK0 K0
              refine wpAnyH_ready (rs := [9]) (by kernel_rfl) (by simp) ?_
              refine AllReadyH.cons rfl (fun K0 hK0 => ?_) AllReadyH.nil
              go_simp
              refine (HLN.out _ (hrd7.at_ hA0)).mono ?_
              rintro e w8 ⟨v8, rfl, hO8, hb8⟩
              obtain ⟨A8, c8, rfl, _⟩ := hO8.rd
              have hbw : Below w7.heap.size w7 w8 := hA0.trans (hb8.mono (by have := hA0.size; exact this))
              have hs8 := hb8.size
              try go_wp2_with fail
              refine hK0.out _ _ (HKS _ (by exact hbw)) (fun hHeld2 => ?_)
              clear hK0 K0
              refine wpAnyH_take (i := 10) (v := (.tuple #[.agg #[(.slice A8 g2.length c8)], .bool ok])) rfl (by kernel_rfl) (by kernel_rfl) (by kernel_rfl) (fun _ _ _ h => h) (Or.inl ⟨by kernel_rfl, fun w hSw => by ((try dsimp only at hSw); (try obtain ⟨hSw1, hSw2, hSw3⟩ := hSw); go_simp)⟩) (by assumption) ?_
              refine wpAnyH_take (i := 11) (v := (.agg #[(.slice A8 g2.length c8)])) rfl (by kernel_rfl) (by kernel_rfl) (by kernel_rfl) (fun _ _ _ h => h) (Or.inl ⟨by kernel_rfl, fun w hSw => by ((try dsimp only at hSw); (try obtain ⟨hSw1, hSw2, hSw3⟩ := hSw); go_simp)⟩) (by assumption) ?_
              refine wpAnyH_take (i := 12) (v := (.bool ok)) rfl (by kernel_rfl) (by kernel_rfl) (by kernel_rfl) (fun _ _ _ h => h) (Or.inl ⟨by kernel_rfl, fun w hSw => by ((try dsimp only at hSw); (try obtain ⟨hSw1, hSw2, hSw3⟩ := hSw); go_simp)⟩) (by assumption) ?_
              refine wpAnyH_ready (rs := [14]) (by kernel_rfl) (by simp) ?_
              refine AllReadyH.cons rfl (fun K0 hK0 => ?_) AllReadyH.nil
              have hc8 : w8.cell? ⟨W7.heap.size, 0, none⟩ = some (.slice none 0 0) := (hb8.cell (p := ⟨W7.heap.size, 0, none⟩) hzA).trans hcA
              have hf8 : w8.frozen? ⟨W7.heap.size, 0, none⟩ = false := (hb8.frozen (p := ⟨W7.heap.size, 0, none⟩) hzA).trans hfA
              have hF : Below w7.heap.size w7 (w8.setCell ⟨W7.heap.size, 0, none⟩ (.slice A8 g2.length c8)) := hbw.setCell (p := ⟨W7.heap.size, 0, none⟩) (Nat.le_of_eq (Eq.symm HSW.out)) _
              have hc9 : (w8.setCell ⟨W7.heap.size, 0, none⟩ (.slice A8 g2.length c8)).cell? ⟨W7.heap.size, 0, none⟩ = some (.slice A8 g2.length c8) := World.cell?_setCell_same' w8 ⟨W7.heap.size, 0, none⟩ _ (by rw [hc8]; rfl)
              go_simp
              refine hK0.out _ _ (HKS _ (by exact hF)) (fun hHeld2 => ?_)
              clear hK0 K0
              refine wpAnyH_take (i := 15) (v := (.bool ok)) rfl (by kernel_rfl) (by kernel_rfl) (by kernel_rfl) (fun _ _ _ h => h) (Or.inl ⟨by kernel_rfl, fun w hSw => by ((try dsimp only at hSw); (try obtain ⟨hSw1, hSw2, hSw3⟩ := hSw); go_simp)⟩) (by assumption) ?_
              refine wpAnyH_done (by kernel_rfl) ?_ _
              have HO9 : Hid (∃ lo hi, OwnI (w8.setCell ⟨W7.heap.size, 0, none⟩ (.slice A8 g2.length c8)) lo hi (.slice A8 g2.length c8) g2 ∧ w5.heap.size + 1 ≤ lo) := ⟨_, _, hO8.put_far (.inl (by exact hzA)) _, by have := hA0.size; have := h5g; have : W7.heap.size = w7.heap.size := HSW.out; omega⟩
              obtain ⟨Wf, hWf⟩ : ∃ V, V = (w8.setCell ⟨W7.heap.size, 0, none⟩ (.slice A8 g2.length c8)) := ⟨_, rfl⟩
              simp only [← hWf] at hF hc9 HO9 ⊢
              have HF := Lib.hid hF
              have HBf := Lib.hid (HB7.out.next hF)
              obtain ⟨_, hcc, hff, _⟩ := HBf.out
              obtain ⟨_, _, hscf, hsff, _⟩ := (HSG7.out.next hF)
              clear hWf hF
              clear hA0 hcA hfA hzA hb8 hO8 hbw hc8 hf8
              clear he0 he1 hsc HKS hrd7 hHeld
              cases ok
              · have HNO := Lib.hid (HBAD2.out rfl)
                have HN := Lib.hid (Sw.vRd_no (HNO.out))
                obtain ⟨_, hcc, hff, _⟩ := HBf.out
                have HC := Lib.hid (Bx.fill HBf.out)
                go_wp2_with fail
                exact bodyPost_ret (v := .tuple #[.agg #[.slice none 0 0], .bool false]) (by have q := HC.out (.slice none 0 0); simp [results, Tryd.results13, go_sem, q]) rfl ⟨_, by rw [HN.out.1], by rw [HN.out.2]; exact OwnI.nil _, Bx.filled HBf.out _⟩
              · obtain ⟨lo9, hi9, ho9, hl9⟩ := HO9.out
                have HP := Lib.hid ((HSG7.out.next HF.out).put ho9 hl9)
                have HG2 := Lib.hid (HGOOD2.out rfl)
                clear ho9 hl9 HO9 HBAD2 HGOOD2
                go_wp2_with fail
                go_roundw
                case rel => exact ⟨k + 1, g2, A8, c8, by go_num, HK1.out, .inr hp, HG2.out, hv9, HBf.out.store HSG7.out.1 _, (HR1c.out.next HF.out (Nat.le_of_lt h5g)).store (.inr (Nat.le_refl _)) _, (HR3c.out.next HF.out HR3c.out.2.2.1).store (.inl (Nat.lt_succ_self _)) _, HP.out⟩
                case measure => simp [intOf]; omega
          · go_simp
            have hA0 : Below w7.heap.size w7 (W7.alloc (.cells #[.slice none 0 0] 25)) := hbW0.trans ((below1 _).mono (by have := hbW0.size; exact this))
            have hcA : (W7.alloc (.cells #[.slice none 0 0] 25)).cell? ⟨W7.heap.size, 0, none⟩ = some (.slice none 0 0) := cell_new _ _ _
            have hfA : (W7.alloc (.cells #[.slice none 0 0] 25)).frozen? ⟨W7.heap.size, 0, none⟩ = false := free_new _ _ _
            have hzA : W7.heap.size < (W7.alloc (.cells #[.slice none 0 0] 25)).heap.size := by simp
            have hA8 : Below W7.heap.size W7 (W7.alloc (.cells #[.slice none 0 0] 25)) := below1 _
            obtain ⟨Wa, hWa⟩ : ∃ V, V = W7.alloc (.cells #[.slice none 0 0] 25) := ⟨_, rfl⟩
            simp only [← hWa] at hA0 hcA hfA hzA hA8 ⊢
            clear hWa
            refine hK0.out _ _ (HKS _ (by exact hA0)) (fun hHeld2 => ?_)
            clear hK0 K0
            refine wpAnyH_ready (rs := [4]) (by kernel_rfl) (by simp) ?_
            refine AllReadyH.cons rfl (fun K0 hK0 => ?_) AllReadyH.nil
            go_simp
            refine (HD0.out _).mono ?_
            rintro e w8 ⟨rfl, hw8⟩
            subst w8
            try go_wp2_with fail
            refine hK0.out _ _ (HKS _ (by exact hA0)) (fun hHeld2 => ?_)
            clear hK0 K0
            refine wpAnyH_ready (rs := [8]) (by kernel_rfl) (by simp) ?_
            refine AllReadyH.cons rfl (fun K0 hK0 => ?_) AllReadyH.nil
            go_simp
            refine (HD1.out _).mono ?_
            rintro e w8 ⟨rfl, hw8⟩
            subst w8
            try go_wp2_with fail
            refine hK0.out _ _ (HKS _ (by exact hA0)) (fun hHeld2 => ?_)
            clear hK0 K0
            refine wpAnyH_ready (rs := [9]) (by kernel_rfl) (by simp) ?_
            refine AllReadyH.cons rfl (fun K0 hK0 => ?_) AllReadyH.nil
            go_simp
            refine (HLN.out _ (hrd7.at_ hA0)).mono ?_
            rintro e w8 ⟨v8, rfl, hO8, hb8⟩
            obtain ⟨A8, c8, rfl, _⟩ := hO8.rd
            have hbw : Below w7.heap.size w7 w8 := hA0.trans (hb8.mono (by have := hA0.size; exact this))
            have hs8 := hb8.size
            try go_wp2_with fail
            refine hK0.out _ _ (HKS _ (by exact hbw)) (fun hHeld2 => ?_)
            clear hK0 K0
            refine wpAnyH_take (i := 10) (v := (.tuple #[.agg #[(.slice A8 g2.length c8)], .bool ok])) rfl (by kernel_rfl) (by kernel_rfl) (by kernel_rfl) (fun _ _ _ h => h) (Or.inl ⟨by kernel_rfl, fun w hSw => by ((try dsimp only at hSw); (try obtain ⟨hSw1, hSw2, hSw3⟩ := hSw); go_simp)⟩) (by assumption) ?_
            refine wpAnyH_take (i := 11) (v := (.agg #[(.slice A8 g2.length c8)])) rfl (by kernel_rfl) (by kernel_rfl) (by kernel_rfl) (fun _ _ _ h => h) (Or.inl ⟨by kernel_rfl, fun w hSw => by ((try dsimp only at hSw); (try obtain ⟨hSw1, hSw2, hSw3⟩ := hSw); go_simp)⟩) (by assumption) ?_
            refine wpAnyH_take (i := 12) (v := (.bool ok)) rfl (by kernel_rfl) (by kernel_rfl) (by kernel_rfl) (fun _ _ _ h => h) (Or.inl ⟨by kernel_rfl, fun w hSw => by ((try dsimp only at hSw); (try obtain ⟨hSw1, hSw2, hSw3⟩ := hSw); go_simp)⟩) (by assumption) ?_
            refine wpAnyH_ready (rs := [14]) (by kernel_rfl) (by simp) ?_
            refine AllReadyH.cons rfl (fun K0 hK0 => ?_) AllReadyH.nil
            have hc8 : w8.cell? ⟨W7.heap.size, 0, none⟩ = some (.slice none 0 0) := (hb8.cell (p := ⟨W7.heap.size, 0, none⟩) hzA).trans hcA
            have hf8 : w8.frozen? ⟨W7.heap.size, 0, none⟩ = false := (hb8.frozen (p := ⟨W7.heap.size, 0, none⟩) hzA).trans hfA
            have hF : Below w7.heap.size w7 (w8.setCell ⟨W7.heap.size, 0, none⟩ (.slice A8 g2.length c8)) := hbw.setCell (p := ⟨W7.heap.size, 0, none⟩) (Nat.le_of_eq (Eq.symm HSW.out)) _
            have hc9 : (w8.setCell ⟨W7.heap.size, 0, none⟩ (.slice A8 g2.length c8)).cell? ⟨W7.heap.size, 0, none⟩ = some (.slice A8 g2.length c8) := World.cell?_setCell_same' w8 ⟨W7.heap.size, 0, none⟩ _ (by rw [hc8]; rfl)
            go_simp
            refine hK0.out _ _ (HKS _ (by exact hF)) (fun hHeld2 => ?_)
            clear hK0 K0
            refine wpAnyH_take (i := 15) (v := (.bool ok)) rfl (by kernel_rfl) (by kernel_rfl) (by kernel_rfl) (fun _ _ _ h => h) (Or.inl ⟨by kernel_rfl, fun w hSw => by ((try dsimp only at hSw); (try obtain ⟨hSw1, hSw2, hSw3⟩ := hSw); go_simp)⟩) (by assumption) ?_
            refine wpAnyH_done (by kernel_rfl) ?_ _
            have HO9 : Hid (∃ lo hi, OwnI (w8.setCell ⟨W7.heap.size, 0, none⟩ (.slice A8 g2.length c8)) lo hi (.slice A8 g2.length c8) g2 ∧ w5.heap.size + 1 ≤ lo) := ⟨_, _, hO8.put_far (.inl (by exact hzA)) _, by have := hA0.size; have := h5g; have : W7.heap.size = w7.heap.size := HSW.out; omega⟩
            obtain ⟨Wf, hWf⟩ : ∃ V, V = (w8.setCell ⟨W7.heap.size, 0, none⟩ (.slice A8 g2.length c8)) := ⟨_, rfl⟩
            simp only [← hWf] at hF hc9 HO9 ⊢
            have HF := Lib.hid hF
            have HBf := Lib.hid (HB7.out.next hF)
            obtain ⟨_, hcc, hff, _⟩ := HBf.out
            obtain ⟨_, _, hscf, hsff, _⟩ := (HSG7.out.next hF)
            clear hWf hF
            clear hA0 hcA hfA hzA hb8 hO8 hbw hc8 hf8
            clear he0 he1 hsc HKS hrd7 hHeld
            cases ok
            · have HNO := Lib.hid (HBAD2.out rfl)
              have HN := Lib.hid (Sw.vRd_no (HNO.out))
              obtain ⟨_, hcc, hff, _⟩ := HBf.out
              have HC := Lib.hid (Bx.fill HBf.out)
              go_wp2_with fail
              exact bodyPost_ret (v := .tuple #[.agg #[.slice none 0 0], .bool false]) (by have q := HC.out (.slice none 0 0); simp [results, Tryd.results13, go_sem, q]) rfl ⟨_, by rw [HN.out.1], by rw [HN.out.2]; exact OwnI.nil _, Bx.filled HBf.out _⟩
            · obtain ⟨lo9, hi9, ho9, hl9⟩ := HO9.out
              have HP := Lib.hid ((HSG7.out.next HF.out).put ho9 hl9)
              have HG2 := Lib.hid (HGOOD2.out rfl)
              clear ho9 hl9 HO9 HBAD2 HGOOD2
              go_wp2_with fail
              go_roundw
              case rel => exact ⟨k + 1, g2, A8, c8, by go_num, HK1.out, .inr hp, HG2.out, hv9, HBf.out.store HSG7.out.1 _, (HR1c.out.next HF.out (Nat.le_of_lt h5g)).store (.inr (Nat.le_refl _)) _, (HR3c.out.next HF.out HR3c.out.2.2.1).store (.inl (Nat.lt_succ_self _)) _, HP.out⟩
              case measure => simp [intOf]; omega
        · have hq : (E.length = 2) = False := eq_false hE2
          have HNO := Lib.hid (HBAD.out (.inl hE2))
          have HN := Lib.hid (Sw.vRd_no (HNO.out))
          obtain ⟨_, hcc, hff, _⟩ := HB7.out
          have HC := Lib.hid (Bx.fill HB7.out)
          go_wp2_with fail
          exact bodyPost_ret (v := .tuple #[.agg #[.slice none 0 0], .bool false]) (by have q := HC.out (.slice none 0 0); simp [results, Tryd.results13, go_sem, q]) rfl ⟨_, by rw [HN.out.1], by rw [HN.out.2]; exact OwnI.nil _, Bx.filled HB7.out _⟩
    · have hp : p1 ≠ [] := by
        rcases hkp with q | q
        · have := HLS.out.1; omega
        · exact q
      have hdx : decide ((k : Int) < (ls.length : Int)) = false := by rw [decide_eq_false_iff_not]; omega
      have HE := Lib.hid (HEND.out k g (.inl ⟨hp, by omega⟩) HRD.out)
      clear hkp hk hLL
      have hTX := specGraphText g A c (by omega)
      have HTX := Lib.hid hTX
      clear hTX
      obtain ⟨_, hcc, hff, _⟩ := HBX.out
      have hTX := HTX.out
      go_wp2_with fail
      refine (hTX _ HSG.out.rd).mono ?_
      rintro e w7 ⟨rfl, hb7⟩
      have HB7 := Lib.hid (HBX.out.next hb7)
      have HSG7 := Lib.hid (HSG.out.next hb7)
      obtain ⟨_, hcc, hff, _⟩ := HB7.out
      have hsc := HSG7.out.2.2.1
      have HC := Lib.hid (Bx.fill HB7.out)
      clear hTX hb7
      by_cases hT : Sw.vText g = l
      · have hv : ∃ G, g = Sw.toI G ∧ Sw.GVN G := by
          rcases Sw.gvB_cases g with h | h
          · rw [Sw.vText_no h] at hT; exact absurd hT.symm HL0.out
          · exact h
        obtain ⟨G, hGe, hG⟩ := hv
        have HV := Lib.hid (Sw.vRd_yes hG (l := l) (by rw [← hT, hGe, Sw.vText_yes hG]))
        have hq : (⟨(Sw.vText g).toArray⟩ : ByteArray) = S := by rw [hT, HS.out]
        rw [hq]
        have HGE := Lib.hid hGe
        clear hT hq hGe
        go_wp2_with fail
        exact bodyPost_ret (v := .tuple #[.agg #[.slice A g.length c], .bool true]) (by have q := HC.out (.slice A g.length c); simp [results, Tryd.results13, go_sem, q]) rfl ⟨_, by rw [HV.out.1], by rw [HV.out.2, ← HGE.out]; exact Sg.out HSG7.out _, Bx.filled HB7.out _⟩
      · have HV := Lib.hid (Sw.vRd_no (l := l) (fun G hG e => hT (by rw [← HE.out G hG e, Sw.vText_yes hG]; exact e)))
        have hq : ((⟨(Sw.vText g).toArray⟩ : ByteArray).toList == S.toList) = false := by
          rw [beq_eq_false_iff_ne, HS.out]
          intro e
          exact hT (ByteArray_toList_inj e)
        obtain ⟨X, hX⟩ : ∃ X, X = (⟨(Sw.vText g).toArray⟩ : ByteArray) := ⟨_, rfl⟩
        rw [← hX] at hq ⊢
        clear hT hX
        go_wp2_with fail
        exact bodyPost_ret (v := .tuple #[.agg #[.slice none 0 0], .bool false]) (by have q := HC.out (.slice none 0 0); simp [results, Tryd.results13, go_sem, q]) rfl ⟨_, by rw [HV.out.1], by rw [HV.out.2]; exact OwnI.nil _, Bx.filled HB7.out _⟩
end Go.Proofs.YtmghnfadgnolpaaDoor

