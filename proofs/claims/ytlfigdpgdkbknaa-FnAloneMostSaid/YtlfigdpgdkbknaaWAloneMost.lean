/- FnAloneMost: a point more is alone once more at most. No conditions. -/
import Derived.Test.YtlfigdpgdkbknaaLw
import Derived.Test.YtlfigdpgdkbknaaLb
import Derived.Test.YtlfigdpgdkbknaaLn
import Derived.Deep.RegionHeld3
import Derived.Deep.DeepCutAuto
namespace Go.Proofs.Ytlfigdpgdkbknaa
open Go.ChangeShapes Go.WideShapes Go.ChangeAt Go.RowKit
set_option maxHeartbeats 2000000 in
theorem lawAloneMost (A : Option Addr) (n c : Nat) (hm : n ≤ maxLen) (hc : n ≤ c) (w : World) (hB : RdB w w.heap.size A n) :
    Calls Try.prog 6 #[.slice A n c] w fun e w' => e = .returned (.bool true) ∧ Below w.heap.size w w' := by
  unfold maxLen at hm
  by_cases hlen : (n : Int) ≤ 1048576
  · go_enter Try.func6, Try.ntmps6
    go_wp2_with fail
    refine (drawAloneMost A n c (by omega) hc _ hB).mono ?_
    rintro e w1 ⟨A1, c1, l, rfl, h10, hr, hb⟩
    have HL := Lib.hid (Lw.start (c1 := c1) hr hb 25)
    clear hr hb
    rcases Sw.gvB_cases l with hv | ⟨G, rfl, hG⟩
    · have hV := Sw.vAm_no hv
      have hI := fun W => implAloneMost l A1 c1 (by omega) W
      have hS := fun W => specAloneMost l A1 c1 (by omega) W
      rw [hV] at hI hS
      clear hV
      obtain ⟨_, hcb, hzb, hrb⟩ := HL.out
      go_wp2_with fail
      refine (hI _ hrb).mono ?_
      rintro e w15 ⟨rfl, hb15⟩
      have HL := Lib.hid (HL.out.next hb15)
      clear hcb hzb hrb hb15
      obtain ⟨_, hcb, hzb, hrb⟩ := HL.out
      go_wp2_with fail
      refine (hS _ hrb).mono ?_
      rintro e w16 ⟨rfl, hb16⟩
      have HL := Lib.hid (HL.out.next hb16)
      clear hcb hzb hrb hb16
      obtain ⟨_, hcb, hzb, hrb⟩ := HL.out
      go_wp2_with fail
      refine (alive _).mono ?_
      rintro e w17 ⟨rfl, hb17⟩
      have HL := Lib.hid (HL.out.next hb17)
      clear hcb hzb hrb hb17
      obtain ⟨_, hcb, hzb, hrb⟩ := HL.out
      go_wp2_with fail
      go_ret
      exact ⟨rfl, HL.out.1⟩
    · obtain ⟨ad, rfl, hL⟩ := HL.out.valid hG
      have HL := Lib.hid hL
      have hn9 := hG.le
      have hn1 := hG.pos
      clear hL
      rw [Sw.toI_len] at HL h10 ⊢
      have hI := fun W h => implAmG G hG ad c1 W h
      have hS := fun W h => specAmG G hG ad c1 W h
      have hm1 := Sw.am_pos hG
      have hm2 := Sw.am_le hG
      have HAL := Lib.hid (fun k (h0 : 0 < G.length) (hk : k < G.length) (h : 0 ≠ k) => Sw.am_line hG h0 hk h)
      obtain ⟨M, hM⟩ : ∃ M, M = Sw.am G := ⟨_, rfl⟩
      rw [← hM] at hI hS hm1 hm2 HAL
      clear hM
      obtain ⟨_, hcb, hzb, hrb⟩ := HL.out
      go_wp2_with fail
      refine (hI _ hrb).mono ?_
      rintro e w18 ⟨rfl, hb18⟩
      have HL := Lib.hid (HL.out.next hb18)
      clear hcb hzb hrb hb18
      obtain ⟨_, hcb, hzb, hrb⟩ := HL.out
      go_wp2_with fail
      refine (hS _ hrb).mono ?_
      rintro e w19 ⟨rfl, hb19⟩
      have HL := Lib.hid (HL.out.next hb19)
      clear hcb hzb hrb hb19
      obtain ⟨_, hcb, hzb, hrb⟩ := HL.out
      go_wp2_with fail
      go_loopw [5] (fun i wr => ∃ k : Nat, 1 ≤ k ∧ k ≤ G.length ∧ i = .int .i64 k ∧ Lg w wr w1.heap.size ad c1 G) (fun i _ => (G.length - intOf i).toNat)
      case atStart => exact ⟨1, Nat.le_refl _, hn1, rfl, HL.out⟩
      case round =>
        obtain ⟨k, hk1, hk, rfl, hL⟩ := hrel
        have HL := Lib.hid hL
        clear hL hcb hzb hrb
        obtain ⟨_, hcb, hzb, hrb⟩ := HL.out
        by_cases hlt : k < G.length
        · have hd : decide ((k : Int) < (G.length : Int)) = true := by rw [decide_eq_true_eq]; omega
          have hC := fun W h => implLineG G hG ad c1 0 k true (by omega) hlt (by omega) W h
          have hK := Sw.lineG_valid (on := true) (a := 0) (b := k) hG (by omega) hlt (by omega)
          have hal := HAL.out k (by omega) hlt (by omega)
          have hKl := Sw.lineG_len G 0 k true
          obtain ⟨K, hKe⟩ : ∃ K, K = Sw.lineG G 0 k true := ⟨_, rfl⟩
          rw [← hKe] at hC hK hal hKl
          have HKL := Lib.hid hKl
          have hAM := fun a c W h => implAmG K hK a c W h
          rw [hKl] at hAM
          obtain ⟨Q, hQ⟩ : ∃ Q, Q = Sw.am K := ⟨_, rfl⟩
          rw [← hQ] at hAM hal
          clear hKe hQ hKl
          go_wp2_with fail
          refine (hC _ hrb).mono ?_
          rintro e w5 ⟨ad2, c2, rfl, hr2, hb5⟩
          have HL := Lib.hid ((HL.out.next hb5).next (below1 (.cells #[.slice (some ad2) G.length c2] 25)))
          have hr2' := hr2.at_ (below1 (.cells #[.slice (some ad2) G.length c2] 25))
          clear hcb hzb hrb hb5 hr2
          obtain ⟨_, hcb, hzb, hrb⟩ := HL.out
          go_wp2_with fail
          refine (hAM ad2 c2 _ hr2').mono ?_
          rintro e w6 ⟨rfl, hb6⟩
          have HL := Lib.hid (HL.out.next hb6)
          clear hcb hzb hrb hb6 hr2'
          rcases hal with hq | hq
          · subst hq
            go_wp2_with fail
            go_roundw
            case rel => exact ⟨k + 1, by omega, by omega, by go_num, HL.out⟩
            case measure => simp [intOf]; omega
          · have hne : ((Q : Int) != (M : Int)) = true := by rw [bne_nat]; exact decide_eq_true (by omega)
            have he : (M : Int) - 1 = (Q : Int) := by omega
            clear hq
            go_wp2_with fail
            go_roundw
            case rel => exact ⟨k + 1, by omega, by omega, by go_num, HL.out⟩
            case measure => simp [intOf]; omega
        · have hkn : k = G.length := by omega
          subst hkn
          have hd : decide ((G.length : Int) < (G.length : Int)) = false := by rw [decide_eq_false_iff_not]; omega
          go_wp2_with fail
          go_ret
          exact ⟨rfl, HL.out.1⟩
  · go_enter Try.func6, Try.ntmps6
    go_wp2_with fail
    go_ret
    exact ⟨rfl, Below.refl _ _⟩
namespace rowAloneMost
theorem contract (H : Type) (enc : TypeId × Value → H) (W : World) (base : Nat) (args : Array Value) (ds gs : List (DataW H)) (before : List MemPlace)
    (hval : ∀ (j : Nat) t v, Try.f6.params[j]? = some t → args[j]? = some v → Value.okWide Try.prog W .any base t v)
    (hW : DataW.Whole enc Try.prog Try.f6.params.toList Rows.fnAloneMostSpec.vars false W args.toList ds gs before) :
    Calls Try.prog 6 args W fun e W' => ∃ v, e = .returned v ∧ Rows.fnAloneMostSpec.post enc Try.prog Try.f6 false true false false W args v W' := by
  have hW' := hW
  obtain ⟨p, q, hA0, hV, rfl, _, _⟩ := hW
  obtain ⟨rfl, rfl⟩ := trodVars_none hV
  simp only [List.append_nil] at hW'
  have hlt : ∀ x ∈ p, x.block < W.heap.size := fun x hx => hW'.lt x hx
  have hA : DataW.TrodAll enc Try.prog W 0 (fun _ => true) true Try.f6.params.toList args.toList ds p := hA0
  rw [Try.params6] at hA hval
  obtain ⟨v0, vs0, d0, ds0, p0, q0, hargs, rfl, rfl, h0, r0⟩ := trodAll_cons hA
  obtain ⟨rfl, rfl, rfl⟩ := trodAll_nil r0
  obtain rfl : args = #[v0] := by cases args; simp_all
  obtain ⟨A0, n0, c0, rfl, m0, k0, g0⟩ := open_bytes (hval 0 _ v0 rfl rfl) h0 (fun x hx => hlt x (by simp [hx]))
  refine (lawAloneMost A0 n0 c0 m0 k0 W g0).mono fun e W' ⟨he, hg⟩ => ?_
  subst he
  exact ⟨_, rfl, post_true rfl (by kernel_rfl) rfl (by kernel_rfl) hW' hA0 hg⟩
set_option maxRecDepth 100000 in
theorem lifted (os : Os) (started : os.Started) (H : Type) (enc : TypeId × Value → H) :
    ReturnsInHanded {} Try.checked os 6 .any (Rows.fnAloneMostSpec.pre6 enc Try.prog Try.f6 Rows.fnAloneMostRow.domain false) (Rows.fnAloneMostSpec.post enc Try.prog Try.f6 false true false false) := by
  refine returnsInHanded_of_change (C := Try.checked) own_knob started (by kernel_rfl) Try.func6
    (ChangeSpec.witness6 (enc := enc) (C := Try.checked) false ⟨#[], #[.slice none 0 0], []⟩ 8 (by kernel_rfl) (by kernel_rfl) (by kernel_rfl) (by kernel_rfl)) ?_
  intro W base args ds gs before hval hW _ _
  exact contract H enc W base args ds gs before hval hW
end rowAloneMost
theorem AloneMost_holds : Rows.FnAloneMostSaid :=
  OpenClaim.holds_of_wide 6 Try.f6 rfl rfl rfl rfl rfl rfl rfl ⟨rfl, rfl, rfl, rfl, rfl⟩ rfl rfl rfl rfl rfl (by kernel_rfl) Try.func6 (by kernel_rfl)
    (of_decide_eq_true (by kernel_rfl)) (by unfold Func.isWrapper; first | (rw [if_pos (by decide +kernel)]; kernel_rfl) | (rw [if_neg (by decide +kernel)]; exact ⟨rfl, rfl⟩))
    (fun os started H enc _ => rowAloneMost.lifted os started H enc)
#print axioms AloneMost_holds
end Go.Proofs.Ytlfigdpgdkbknaa

