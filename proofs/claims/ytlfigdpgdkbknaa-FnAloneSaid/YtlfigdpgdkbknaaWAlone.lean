/- FnAlone: who is alone stays alone. No conditions. -/
import Derived.Test.YtlfigdpgdkbknaaLw
import Derived.Test.YtlfigdpgdkbknaaLb
import Derived.Test.YtlfigdpgdkbknaaDrS2
import Derived.Test.YtlfigdpgdkbknaaMath8
import Derived.Deep.RegionHeld3
import Derived.Deep.DeepCutAuto
namespace Go.Proofs.Ytlfigdpgdkbknaa
open Go.ChangeShapes Go.WideShapes Go.ChangeAt Go.RowKit
set_option maxHeartbeats 4000000 in
theorem lawAlone (A : Option Addr) (n c : Nat) (hm : n ≤ maxLen) (hc : n ≤ c) (w : World) (hB : RdB w w.heap.size A n) :
    Calls Try.prog 5 #[.slice A n c] w fun e w' => e = .returned (.bool true) ∧ Below w.heap.size w w' := by
  unfold maxLen at hm
  by_cases hlen : (n : Int) ≤ 1048576
  · go_enter Try.func5, Try.ntmps5
    go_wp2_with fail
    refine (drawAlone A n c (by omega) hc _ hB).mono ?_
    rintro e w1 ⟨A1, c1, l, s, rfl, h10, hr, hb⟩
    have HL := Lib.hid (Lw.start (c1 := c1) hr hb 25)
    clear hr hb
    cases hv : Sw.vAlone l s
    · have hI := fun W => implAlone l A1 c1 s (by omega) W
      have hS := fun W => specAlone l A1 c1 s (by omega) W
      rw [hv] at hI hS
      clear hv
      obtain ⟨_, hcb, hzb, hrb⟩ := HL.out
      go_wp2_with fail
      refine (hI _ hrb).mono ?_
      rintro e w15 ⟨rfl, hb15⟩
      have HL := Lib.hid (HL.out.next hb15)
      clear hcb hzb hrb hb15
      obtain ⟨_, hcb, hzb, hrb⟩ := HL.out
      go_wp2_with fail
      refine (hS _ hrb).mono ?_
      rintro e w16 ⟨rfl, hb16⟩
      have HL := Lib.hid (HL.out.next hb16)
      clear hcb hzb hrb hb16
      obtain ⟨_, hcb, hzb, hrb⟩ := HL.out
      go_wp2_with fail
      refine (alive _).mono ?_
      rintro e w17 ⟨rfl, hb17⟩
      have HL := Lib.hid (HL.out.next hb17)
      clear hcb hzb hrb hb17
      obtain ⟨_, hcb, hzb, hrb⟩ := HL.out
      go_wp2_with fail
      go_ret
      exact ⟨rfl, HL.out.1⟩
    · rcases Sw.svB_cases l s with h | ⟨G, S, rfl, hG, rfl, hS⟩
      · rw [Sw.vAlone_no h] at hv; cases hv
      rw [Sw.vAlone_yes hG hS, decide_eq_true_eq] at hv
      obtain ⟨ad, rfl, hL⟩ := HL.out.valid hG
      have HL := Lib.hid hL
      have hn9 := hG.le
      have hn1 := hG.pos
      clear hL
      rw [Sw.toI_len] at HL h10 ⊢
      have hS9 := Nat.lt_of_lt_of_le hS (Sw.pow_le9 hn9)
      have hI := fun W h => implAloneG G hG ad c1 W h hS
      have hS' := fun W h => specAloneG G hG S hS ad c1 W h
      rw [decide_eq_true hv] at hI hS'
      have hM := fun W h => implSetMany (Sw.toI G) (some ad) c1 (S : Nat) (by rw [Sw.toI_len]; omega) W h
      rw [Sw.vMany_yes hG hS, Sw.toI_len] at hM
      have hA := fun W h => implAmG G hG ad c1 W h
      have hle := Sw.alone_le_am hS hv
      have hmle := Sw.am_le hG
      obtain ⟨M, hMe⟩ : ∃ M, M = Sw.am G := ⟨_, rfl⟩
      rw [← hMe] at hA hle hmle
      obtain ⟨C, hCe⟩ : ∃ C, C = Sw.cnt S := ⟨_, rfl⟩
      rw [← hCe] at hM hle
      have hdle : decide ((C : Int) ≤ (M : Int)) = true := by rw [decide_eq_true_eq]; omega
      have HV : Hid (Sw.bes G S &&& S = 0) := hv
      clear hMe hCe hv
      obtain ⟨_, hcb, hzb, hrb⟩ := HL.out
      go_wp2_with fail
      refine (hI _ hrb).mono ?_
      rintro e w18 ⟨rfl, hb18⟩
      have HL := Lib.hid (HL.out.next hb18)
      clear hcb hzb hrb hb18
      obtain ⟨_, hcb, hzb, hrb⟩ := HL.out
      go_wp2_with fail
      refine (hS' _ hrb).mono ?_
      rintro e w19 ⟨rfl, hb19⟩
      have HL := Lib.hid (HL.out.next hb19)
      clear hcb hzb hrb hb19
      obtain ⟨_, hcb, hzb, hrb⟩ := HL.out
      go_wp2_with fail
      go_loopw [6] (fun i wr => ∃ k : Nat, k ≤ G.length ∧ i = .int .i64 k ∧ Lg w wr w1.heap.size ad c1 G) (fun i _ => (G.length - intOf i).toNat)
      case atStart => exact ⟨0, Nat.zero_le _, rfl, HL.out⟩
      case round =>
        obtain ⟨k, hk, rfl, hL⟩ := hrel
        have HL := Lib.hid hL
        clear hL hcb hzb hrb
        obtain ⟨_, hcb, hzb, hrb⟩ := HL.out
        by_cases hlt : k < G.length
        · have hd : decide ((k : Int) < (G.length : Int)) = true := by rw [decide_eq_true_eq]; omega
          have h0k := shr_nonneg S k
          have hck := hrb.cell k hlt
          have hblk := hrb.blk
          by_cases hbt : S.testBit k = true
          · have hbi : (S : Int) / 2 ^ k % 2 = 1 := by rw [shr_nat]; have := Sw.bit_one.2 hbt; unfold Sw.bit at this; omega
            have hbm : (((S : Int) / 2 ^ k).tmod 2 == 1) = true := by rw [Int.tmod_eq_emod_of_nonneg h0k, hbi]; rfl
            have hKS : 2 ^ k ≤ S := Nat.ge_two_pow_of_testBit hbt
            have hpw := pow_nat k
            have hS2 : S - 2 ^ k < 2 ^ G.length := Nat.lt_of_le_of_lt (Nat.sub_le _ _) hS
            have hal := Sw.alone_less hbt HV.out
            have hP := fun W h => implAloneG G hG ad c1 W h hS2
            rw [decide_eq_true hal] at hP
            have hbo := fun W => both (Sw.nb G k) S (lt40 hn9 (hG.lt k)) (lt40 hn9 hS) W
            rw [Sw.alone_line hbt HV.out] at hbo
            have hx9 := Nat.lt_of_lt_of_le (hG.lt k) (Sw.pow_le9 hn9)
            obtain ⟨K, hK⟩ : ∃ K, K = 2 ^ k := ⟨_, rfl⟩
            rw [← hK] at hP hKS hpw
            have hw1 : IntKind.i64.wrap ((2 : Int) ^ k) = (K : Int) := by rw [hpw]; exact IntWalk.i64_in _ (by omega)
            obtain ⟨D, hD⟩ : ∃ D, D = S - K := ⟨_, rfl⟩
            have hw2 : IntKind.i64.wrap ((S : Int) - (K : Int)) = (D : Int) := by rw [IntWalk.i64_in _ (by omega)]; omega
            rw [← hD] at hP
            obtain ⟨X, hX⟩ : ∃ X, X = Sw.nb G k := ⟨_, rfl⟩
            rw [← hX] at hbo hck hx9
            have HC : Hid (∀ W, Below wr.heap.size wr W → W.cell? (ad.add k) = some (.int .i64 (X : Nat))) := fun W h => (h.cell (by rw [add_block]; exact hblk)).trans hck
            clear hK hX hpw hD hS2 hal hblk hbt
            go_wp2_with fail
            go_region_held3 (fun w' => w'.cell? ⟨w1.heap.size, 0, none⟩ = some (.slice (some ad) G.length c1) ∧ w'.cell? (ad.add k) = some (.int .i64 (X : Nat))) (first | exact ⟨hcb, hck⟩ | exact hS_K1) (first | (go_at_call 14; refine (hbo _).mono ?_; rintro e w' ⟨rfl, rfl⟩) | (go_at_call 21; refine (hP _ (by exact hrb)).mono ?_; rintro e Y1 ⟨rfl, z1⟩; have K1 := Lib.hid (HL.out.next (undrew (by exact z1))); have hS_K1 := And.intro K1.out.2.1 (HC.out _ (undrew (by exact z1)))))
            go_wp2_with fail
            go_roundw
            case rel => exact ⟨k + 1, by omega, by go_num, K1.out⟩
            case measure => simp [intOf]; omega
          · simp only [Bool.not_eq_true] at hbt
            have hbi : (S : Int) / 2 ^ k % 2 = 0 := by rw [shr_nat]; have := Sw.bit_zero.2 hbt; unfold Sw.bit at this; omega
            have hbm : (((S : Int) / 2 ^ k).tmod 2 == 1) = false := by rw [Int.tmod_eq_emod_of_nonneg h0k, hbi]; rfl
            clear hbt hblk
            go_wp2_with fail
            refine wp_region_any (by kernel_rfl) ?_
            change wpAny _ _ _ _ _ _ _ (World.drew _)
            refine wpAny_take (i := 0) (v := .int .i64 (S : Nat)) rfl (by kernel_rfl) (by kernel_rfl) (by kernel_rfl) (fun _ _ _ h => h) (.inl ⟨by kernel_rfl, fun w => by first | rfl | go_simp⟩) ?_
            refine wpAny_take (i := 1) (v := .int .i64 (k : Nat)) rfl (by kernel_rfl) (by kernel_rfl) (by kernel_rfl) (fun _ _ _ h => h) (.inl ⟨by kernel_rfl, fun w => by first | rfl | go_simp⟩) ?_
            refine wpAny_ready (rs := [2]) (by kernel_rfl) (by simp) ?_
            refine AllReady.cons rfl (fun K hK => ?_) AllReady.nil
            go_simp
            refine hK _ _ ?_
            clear hK K
            refine wpAny_ready (rs := [3]) (by kernel_rfl) (by simp) ?_
            refine AllReady.cons rfl (fun K hK => ?_) AllReady.nil
            go_simp
            refine hK _ _ ?_
            clear hK K
            refine wpAny_ready (rs := [4]) (by kernel_rfl) (by simp) ?_
            refine AllReady.cons rfl (fun K hK => ?_) AllReady.nil
            go_simp
            try simp only [hbm]
            refine hK _ _ ?_
            clear hK K
            refine wpAny_ready (rs := [5]) (by kernel_rfl) (by simp) ?_
            refine AllReady.cons rfl (fun K hK => ?_) AllReady.nil
            go_simp
            refine hK _ _ ?_
            clear hK K
            refine wpAny_take (i := 6) (v := undef) rfl (by kernel_rfl) (by kernel_rfl) (by kernel_rfl) (fun _ _ _ h => h) (.inr ⟨by kernel_rfl, rfl⟩) ?_
            refine wpAny_take (i := 7) (v := undef) rfl (by kernel_rfl) (by kernel_rfl) (by kernel_rfl) (fun _ _ _ h => h) (.inr ⟨by kernel_rfl, rfl⟩) ?_
            refine wpAny_take (i := 8) (v := undef) rfl (by kernel_rfl) (by kernel_rfl) (by kernel_rfl) (fun _ _ _ h => h) (.inr ⟨by kernel_rfl, rfl⟩) ?_
            refine wpAny_take (i := 9) (v := undef) rfl (by kernel_rfl) (by kernel_rfl) (by kernel_rfl) (fun _ _ _ h => h) (.inr ⟨by kernel_rfl, rfl⟩) ?_
            refine wpAny_take (i := 10) (v := undef) rfl (by kernel_rfl) (by kernel_rfl) (by kernel_rfl) (fun _ _ _ h => h) (.inr ⟨by kernel_rfl, rfl⟩) ?_
            refine wpAny_take (i := 11) (v := undef) rfl (by kernel_rfl) (by kernel_rfl) (by kernel_rfl) (fun _ _ _ h => h) (.inr ⟨by kernel_rfl, rfl⟩) ?_
            refine wpAny_take (i := 12) (v := undef) rfl (by kernel_rfl) (by kernel_rfl) (by kernel_rfl) (fun _ _ _ h => h) (.inr ⟨by kernel_rfl, rfl⟩) ?_
            refine wpAny_take (i := 13) (v := undef) rfl (by kernel_rfl) (by kernel_rfl) (by kernel_rfl) (fun _ _ _ h => h) (.inr ⟨by kernel_rfl, rfl⟩) ?_
            refine wpAny_take (i := 14) (v := undef) rfl (by kernel_rfl) (by kernel_rfl) (by kernel_rfl) (fun _ _ _ h => h) (.inr ⟨by kernel_rfl, rfl⟩) ?_
            refine wpAny_take (i := 15) (v := undef) rfl (by kernel_rfl) (by kernel_rfl) (by kernel_rfl) (fun _ _ _ h => h) (.inr ⟨by kernel_rfl, rfl⟩) ?_
            refine wpAny_take (i := 16) (v := undef) rfl (by kernel_rfl) (by kernel_rfl) (by kernel_rfl) (fun _ _ _ h => h) (.inr ⟨by kernel_rfl, rfl⟩) ?_
            refine wpAny_take (i := 17) (v := undef) rfl (by kernel_rfl) (by kernel_rfl) (by kernel_rfl) (fun _ _ _ h => h) (.inr ⟨by kernel_rfl, rfl⟩) ?_
            refine wpAny_take (i := 18) (v := undef) rfl (by kernel_rfl) (by kernel_rfl) (by kernel_rfl) (fun _ _ _ h => h) (.inr ⟨by kernel_rfl, rfl⟩) ?_
            refine wpAny_take (i := 19) (v := undef) rfl (by kernel_rfl) (by kernel_rfl) (by kernel_rfl) (fun _ _ _ h => h) (.inr ⟨by kernel_rfl, rfl⟩) ?_
            refine wpAny_take (i := 20) (v := undef) rfl (by kernel_rfl) (by kernel_rfl) (by kernel_rfl) (fun _ _ _ h => h) (.inr ⟨by kernel_rfl, rfl⟩) ?_
            refine wpAny_take (i := 21) (v := undef) rfl (by kernel_rfl) (by kernel_rfl) (by kernel_rfl) (fun _ _ _ h => h) (.inr ⟨by kernel_rfl, rfl⟩) ?_
            refine wpAny_take (i := 22) (v := undef) rfl (by kernel_rfl) (by kernel_rfl) (by kernel_rfl) (fun _ _ _ h => h) (.inr ⟨by kernel_rfl, rfl⟩) ?_
            refine wpAny_ready (rs := [23]) (by kernel_rfl) (by simp) ?_
            refine AllReady.cons rfl (fun K hK => ?_) AllReady.nil
            go_simp
            refine hK _ _ ?_
            clear hK K
            refine wpAny_done (by kernel_rfl) ?_ _
            go_wp2_with fail
            go_roundw
            case rel => exact ⟨k + 1, by omega, by go_num, (HL.out.next (bdr (Below.refl _ _) 1))⟩
            case measure => simp [intOf]; omega
        · have hkn : k = G.length := by omega
          subst hkn
          have hd : decide ((G.length : Int) < (G.length : Int)) = false := by rw [decide_eq_false_iff_not]; omega
          go_wp2_with fail
          go_region_held3 (fun w' => w'.cell? ⟨w1.heap.size, 0, none⟩ = some (.slice (some ad) G.length c1)) (first | exact hcb | exact hS_K1 | exact hS_K2) (first | (have hq := hr_K1; clear hq; go_at_call 24; refine (hA _ (by exact hr_K1)).mono ?_; rintro e Y2 ⟨rfl, z2⟩; have K2 := Lib.hid (K1.out.next (by exact z2)); have hS_K2 := K2.out.2.1; have hr_K2 := K2.out.2.2.2) | (go_at_call 23; refine (hM _ (by exact hrb.toI)).mono ?_; rintro e Y1 ⟨rfl, z1⟩; have K1 := Lib.hid (HL.out.next (undrew (by exact z1))); have hS_K1 := K1.out.2.1; have hr_K1 := K1.out.2.2.2))
          go_wp2_with fail
          go_ret
          exact ⟨rfl, K2.out.1⟩
  · go_enter Try.func5, Try.ntmps5
    go_wp2_with fail
    go_ret
    exact ⟨rfl, Below.refl _ _⟩
namespace rowAlone
theorem contract (H : Type) (enc : TypeId × Value → H) (W : World) (base : Nat) (args : Array Value) (ds gs : List (DataW H)) (before : List MemPlace)
    (hval : ∀ (j : Nat) t v, Try.f5.params[j]? = some t → args[j]? = some v → Value.okWide Try.prog W .any base t v)
    (hW : DataW.Whole enc Try.prog Try.f5.params.toList Rows.fnAloneSpec.vars false W args.toList ds gs before) :
    Calls Try.prog 5 args W fun e W' => ∃ v, e = .returned v ∧ Rows.fnAloneSpec.post enc Try.prog Try.f5 false true false false W args v W' := by
  have hW' := hW
  obtain ⟨p, q, hA0, hV, rfl, _, _⟩ := hW
  obtain ⟨rfl, rfl⟩ := trodVars_none hV
  simp only [List.append_nil] at hW'
  have hlt : ∀ x ∈ p, x.block < W.heap.size := fun x hx => hW'.lt x hx
  have hA : DataW.TrodAll enc Try.prog W 0 (fun _ => true) true Try.f5.params.toList args.toList ds p := hA0
  rw [Try.params5] at hA hval
  obtain ⟨v0, vs0, d0, ds0, p0, q0, hargs, rfl, rfl, h0, r0⟩ := trodAll_cons hA
  obtain ⟨rfl, rfl, rfl⟩ := trodAll_nil r0
  obtain rfl : args = #[v0] := by cases args; simp_all
  obtain ⟨A0, n0, c0, rfl, m0, k0, g0⟩ := open_bytes (hval 0 _ v0 rfl rfl) h0 (fun x hx => hlt x (by simp [hx]))
  refine (lawAlone A0 n0 c0 m0 k0 W g0).mono fun e W' ⟨he, hg⟩ => ?_
  subst he
  exact ⟨_, rfl, post_true rfl (by kernel_rfl) rfl (by kernel_rfl) hW' hA0 hg⟩
set_option maxRecDepth 100000 in
theorem lifted (os : Os) (started : os.Started) (H : Type) (enc : TypeId × Value → H) :
    ReturnsInHanded {} Try.checked os 5 .any (Rows.fnAloneSpec.pre6 enc Try.prog Try.f5 Rows.fnAloneRow.domain false) (Rows.fnAloneSpec.post enc Try.prog Try.f5 false true false false) := by
  refine returnsInHanded_of_change (C := Try.checked) own_knob started (by kernel_rfl) Try.func5
    (ChangeSpec.witness6 (enc := enc) (C := Try.checked) false ⟨#[], #[.slice none 0 0], []⟩ 8 (by kernel_rfl) (by kernel_rfl) (by kernel_rfl) (by kernel_rfl)) ?_
  intro W base args ds gs before hval hW _ _
  exact contract H enc W base args ds gs before hval hW
end rowAlone
theorem Alone_holds : Rows.FnAloneSaid :=
  OpenClaim.holds_of_wide 5 Try.f5 rfl rfl rfl rfl rfl rfl rfl ⟨rfl, rfl, rfl, rfl, rfl⟩ rfl rfl rfl rfl rfl (by kernel_rfl) Try.func5 (by kernel_rfl)
    (of_decide_eq_true (by kernel_rfl)) (by unfold Func.isWrapper; first | (rw [if_pos (by decide +kernel)]; kernel_rfl) | (rw [if_neg (by decide +kernel)]; exact ⟨rfl, rfl⟩))
    (fun os started H enc _ => rowAlone.lifted os started H enc)
#print axioms Alone_holds
end Go.Proofs.Ytlfigdpgdkbknaa

