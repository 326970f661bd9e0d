/- FnTwoColours: both colours are alone, if there are two; and otherwise no set is alone together with what is not in it. No conditions. -/
import Derived.Test.YtlfigdpgdkbknaaLw
import Derived.Test.YtlfigdpgdkbknaaLb
import Derived.Deep.RegionHeld3
import Derived.Deep.DeepCutAuto
namespace Go.Proofs.Ytlfigdpgdkbknaa
open Go.ChangeShapes Go.WideShapes Go.ChangeAt Go.RowKit
set_option maxHeartbeats 2000000 in
theorem lawTwoColours (A : Option Addr) (n c : Nat) (hm : n ≤ maxLen) (hc : n ≤ c) (w : World) (hB : RdB w w.heap.size A n) :
    Calls Try.prog 8 #[.slice A n c] w fun e w' => e = .returned (.bool true) ∧ Below w.heap.size w w' := by
  unfold maxLen at hm
  by_cases hlen : (n : Int) ≤ 1048576
  · go_enter Try.func8, Try.ntmps8
    go_wp2_with fail
    refine (drawTwoColours A n c (by omega) hc _ hB).mono ?_
    rintro e w1 ⟨A1, c1, l, rfl, h10, hr, hb⟩
    have HL := Lib.hid (Lw.start (c1 := c1) hr hb 25)
    clear hr hb
    rcases Sw.gvB_cases l with hv | ⟨G, rfl, hG⟩
    · have hV := Sw.vTc_no hv
      have hI := fun W => implTwoColours l A1 c1 (by omega) W
      have hS := fun W => specTwoColours l A1 c1 (by omega) W
      rw [hV.1, hV.2] at hI hS
      clear hV
      obtain ⟨_, hcb, hzb, hrb⟩ := HL.out
      go_wp2_with fail
      refine (hI _ hrb).mono ?_
      rintro e w2 ⟨rfl, hb2⟩
      have HL := Lib.hid (HL.out.next hb2)
      clear hcb hzb hrb hb2
      obtain ⟨_, hcb, hzb, hrb⟩ := HL.out
      go_wp2_with fail
      refine (hS _ hrb).mono ?_
      rintro e w3 ⟨rfl, hb3⟩
      have HL := Lib.hid (HL.out.next hb3)
      clear hcb hzb hrb hb3
      obtain ⟨_, hcb, hzb, hrb⟩ := HL.out
      go_wp2_with fail
      refine (specGraphValid_no l A1 c1 (by omega) hv _ hrb).mono ?_
      rintro e w4 ⟨rfl, hb4⟩
      have HL := Lib.hid (HL.out.next hb4)
      clear hcb hzb hrb hb4
      obtain ⟨_, hcb, hzb, hrb⟩ := HL.out
      go_wp2_with fail
      refine (alive _).mono ?_
      rintro e w5 ⟨rfl, hb5⟩
      have HL := Lib.hid (HL.out.next hb5)
      clear hcb hzb hrb hb5
      obtain ⟨_, hcb, hzb, hrb⟩ := HL.out
      go_wp2_with fail
      go_ret
      exact ⟨rfl, HL.out.1⟩
    · obtain ⟨ad, rfl, hL⟩ := HL.out.valid hG
      have HL := Lib.hid hL
      have hn9 := hG.le
      have hn1 := hG.pos
      clear hL
      rw [Sw.toI_len] at HL h10 ⊢
      obtain ⟨N, hN0⟩ : ∃ N, N = 2 ^ G.length := ⟨_, rfl⟩
      have hN : (2 : Int) ^ G.length = (N : Int) := by rw [hN0, pow_nat]
      have h512 : N ≤ 512 := by rw [hN0]; exact Sw.pow_le9 hn9
      have hN1 : 1 ≤ N := by rw [hN0]; exact Nat.two_pow_pos _
      have HN0 := Lib.hid hN0
      clear hN0
      rcases htc : Sw.tc G with _ | C
      · have HNO := Lib.hid (Sw.tc_no hG htc)
        have hI := fun W h => implTcNone G hG ad c1 W h htc
        have hS := fun W h => specTcNone G hG ad c1 W h htc
        clear htc
        obtain ⟨_, hcb, hzb, hrb⟩ := HL.out
        go_wp2_with fail
        refine (hI _ hrb).mono ?_
        rintro e w6 ⟨rfl, hb6⟩
        have HL := Lib.hid (HL.out.next hb6)
        clear hcb hzb hrb hb6
        obtain ⟨_, hcb, hzb, hrb⟩ := HL.out
        go_wp2_with fail
        refine (hS _ hrb).mono ?_
        rintro e w7 ⟨rfl, hb7⟩
        have HL := Lib.hid (HL.out.next hb7)
        clear hcb hzb hrb hb7
        obtain ⟨_, hcb, hzb, hrb⟩ := HL.out
        go_wp2_with fail
        refine (specGV G hG ad c1 _ hrb).mono ?_
        rintro e w8 ⟨rfl, hb8⟩
        have HL := Lib.hid (HL.out.next hb8)
        clear hcb hzb hrb hb8
        obtain ⟨_, hcb, hzb, hrb⟩ := HL.out
        go_wp2_with fail
        go_loopw [9] (fun i wr => ∃ k : Nat, k ≤ N ∧ i = .int .i64 k ∧ Lg w wr w1.heap.size ad c1 G) (fun i _ => (N - intOf i).toNat)
        case atStart => exact ⟨0, Nat.zero_le _, rfl, HL.out⟩
        case round =>
          obtain ⟨k, hk, rfl, hL⟩ := hrel
          have HL := Lib.hid hL
          clear hL hcb hzb hrb
          by_cases hlt : (k : Int) ≤ (N : Int) - 1
          · have hkN : k < 2 ^ G.length := by rw [← HN0.out]; omega
            have hRl := Sw.rest_lt G k
            have hrk : (N : Int) - 1 - (k : Int) = ((Sw.rest G k : Nat) : Int) := by have := HN0.out; unfold Sw.rest; omega
            have hC1 := fun W h => implAloneG G hG ad c1 W h hkN
            have hC2 := fun W h => implAloneG G hG ad c1 W h hRl
            have hNC := HNO.out k
            rw [Sw.col_iff hG hkN] at hNC
            obtain ⟨R, hR⟩ : ∃ R, R = Sw.rest G k := ⟨_, rfl⟩
            rw [← hR] at hrk hC2 hNC
            clear hR hkN hRl
            by_cases a1 : Sw.bes G k &&& k = 0
            · rw [decide_eq_true a1] at hC1
              have a2 : ¬ Sw.bes G R &&& R = 0 := fun h => hNC ⟨a1, h⟩
              rw [decide_eq_false a2] at hC2
              clear a1 a2 hNC
              obtain ⟨_, hcb, hzb, hrb⟩ := HL.out
              go_wp2_with fail
              refine (hC1 _ hrb).mono ?_
              rintro e w9 ⟨rfl, hb9⟩
              have HL := Lib.hid (HL.out.next hb9)
              clear hcb hzb hrb hb9
              obtain ⟨_, hcb, hzb, hrb⟩ := HL.out
              go_wp2_with fail
              refine (hC2 _ hrb).mono ?_
              rintro e w10 ⟨rfl, hb10⟩
              have HL := Lib.hid (HL.out.next hb10)
              clear hcb hzb hrb hb10
              go_wp2_with fail
              go_roundw
              case rel => exact ⟨k + 1, by omega, by go_num, HL.out⟩
              case measure => simp [intOf]; omega
            · rw [decide_eq_false a1] at hC1
              clear a1 hNC
              obtain ⟨_, hcb, hzb, hrb⟩ := HL.out
              go_wp2_with fail
              refine (hC1 _ hrb).mono ?_
              rintro e w11 ⟨rfl, hb11⟩
              have HL := Lib.hid (HL.out.next hb11)
              clear hcb hzb hrb hb11
              go_wp2_with fail
              go_roundw
              case rel => exact ⟨k + 1, by omega, by go_num, HL.out⟩
              case measure => simp [intOf]; omega
          · clear HNO
            obtain ⟨_, hcb, hzb, hrb⟩ := HL.out
            go_wp2_with fail
            go_ret
            exact ⟨rfl, HL.out.1⟩
      · have hcol := (Sw.tc_some htc).1
        have hCl := hcol.1
        have hal := (Sw.col_iff hG hCl).1 hcol
        have hRl := Sw.rest_lt G C
        have hI := fun W h => implTcSome G hG ad c1 W h htc
        have hS := fun W h => specTcSome G hG ad c1 W h htc
        have hC1 := fun W h => implAloneG G hG ad c1 W h hCl
        have hC2 := fun W h => implAloneG G hG ad c1 W h hRl
        rw [decide_eq_true hal.1] at hC1
        rw [decide_eq_true hal.2] at hC2
        have hCN : C < N := by rw [HN0.out]; exact hCl
        have hrk : (N : Int) - 1 - (C : Int) = ((Sw.rest G C : Nat) : Int) := by have := HN0.out; unfold Sw.rest; omega
        obtain ⟨R, hR⟩ : ∃ R, R = Sw.rest G C := ⟨_, rfl⟩
        rw [← hR] at hrk hC2
        clear hR hcol hCl hal hRl htc
        obtain ⟨_, hcb, hzb, hrb⟩ := HL.out
        go_wp2_with fail
        refine (hI _ hrb).mono ?_
        rintro e w12 ⟨rfl, hb12⟩
        have HL := Lib.hid (HL.out.next hb12)
        clear hcb hzb hrb hb12
        obtain ⟨_, hcb, hzb, hrb⟩ := HL.out
        go_wp2_with fail
        refine (hS _ hrb).mono ?_
        rintro e w13 ⟨rfl, hb13⟩
        have HL := Lib.hid (HL.out.next hb13)
        clear hcb hzb hrb hb13
        obtain ⟨_, hcb, hzb, hrb⟩ := HL.out
        go_wp2_with fail
        refine (specGV G hG ad c1 _ hrb).mono ?_
        rintro e w14 ⟨rfl, hb14⟩
        have HL := Lib.hid (HL.out.next hb14)
        clear hcb hzb hrb hb14
        obtain ⟨_, hcb, hzb, hrb⟩ := HL.out
        go_wp2_with fail
        refine wp_loop_rounds 1 ?_
        rw [rounds_succ]
        go_wp2_with fail
        refine (hC1 _ hrb).mono ?_
        rintro e w8 ⟨rfl, hb8⟩
        have HL := Lib.hid (HL.out.next hb8)
        clear hcb hzb hrb hb8
        obtain ⟨_, hcb, hzb, hrb⟩ := HL.out
        go_wp2_with fail
        refine (hC2 _ hrb).mono ?_
        rintro e w15 ⟨rfl, hb15⟩
        have HL := Lib.hid (HL.out.next hb15)
        clear hcb hzb hrb hb15
        obtain ⟨_, hcb, hzb, hrb⟩ := HL.out
        go_wp2_with fail
        go_ret
        exact ⟨rfl, HL.out.1⟩
  · go_enter Try.func8, Try.ntmps8
    go_wp2_with fail
    go_ret
    exact ⟨rfl, Below.refl _ _⟩
namespace rowTwoColours
theorem contract (H : Type) (enc : TypeId × Value → H) (W : World) (base : Nat) (args : Array Value) (ds gs : List (DataW H)) (before : List MemPlace)
    (hval : ∀ (j : Nat) t v, Try.f8.params[j]? = some t → args[j]? = some v → Value.okWide Try.prog W .any base t v)
    (hW : DataW.Whole enc Try.prog Try.f8.params.toList Rows.fnTwoColoursSpec.vars false W args.toList ds gs before) :
    Calls Try.prog 8 args W fun e W' => ∃ v, e = .returned v ∧ Rows.fnTwoColoursSpec.post enc Try.prog Try.f8 false true false false W args v W' := by
  have hW' := hW
  obtain ⟨p, q, hA0, hV, rfl, _, _⟩ := hW
  obtain ⟨rfl, rfl⟩ := trodVars_none hV
  simp only [List.append_nil] at hW'
  have hlt : ∀ x ∈ p, x.block < W.heap.size := fun x hx => hW'.lt x hx
  have hA : DataW.TrodAll enc Try.prog W 0 (fun _ => true) true Try.f8.params.toList args.toList ds p := hA0
  rw [Try.params8] at hA hval
  obtain ⟨v0, vs0, d0, ds0, p0, q0, hargs, rfl, rfl, h0, r0⟩ := trodAll_cons hA
  obtain ⟨rfl, rfl, rfl⟩ := trodAll_nil r0
  obtain rfl : args = #[v0] := by cases args; simp_all
  obtain ⟨A0, n0, c0, rfl, m0, k0, g0⟩ := open_bytes (hval 0 _ v0 rfl rfl) h0 (fun x hx => hlt x (by simp [hx]))
  refine (lawTwoColours A0 n0 c0 m0 k0 W g0).mono fun e W' ⟨he, hg⟩ => ?_
  subst he
  exact ⟨_, rfl, post_true rfl (by kernel_rfl) rfl (by kernel_rfl) hW' hA0 hg⟩
set_option maxRecDepth 100000 in
theorem lifted (os : Os) (started : os.Started) (H : Type) (enc : TypeId × Value → H) :
    ReturnsInHanded {} Try.checked os 8 .any (Rows.fnTwoColoursSpec.pre6 enc Try.prog Try.f8 Rows.fnTwoColoursRow.domain false) (Rows.fnTwoColoursSpec.post enc Try.prog Try.f8 false true false false) := by
  refine returnsInHanded_of_change (C := Try.checked) own_knob started (by kernel_rfl) Try.func8
    (ChangeSpec.witness6 (enc := enc) (C := Try.checked) false ⟨#[], #[.slice none 0 0], []⟩ 8 (by kernel_rfl) (by kernel_rfl) (by kernel_rfl) (by kernel_rfl)) ?_
  intro W base args ds gs before hval hW _ _
  exact contract H enc W base args ds gs before hval hW
end rowTwoColours
theorem TwoColours_holds : Rows.FnTwoColoursSaid :=
  OpenClaim.holds_of_wide 8 Try.f8 rfl rfl rfl rfl rfl rfl rfl ⟨rfl, rfl, rfl, rfl, rfl⟩ rfl rfl rfl rfl rfl (by kernel_rfl) Try.func8 (by kernel_rfl)
    (of_decide_eq_true (by kernel_rfl)) (by unfold Func.isWrapper; first | (rw [if_pos (by decide +kernel)]; kernel_rfl) | (rw [if_neg (by decide +kernel)]; exact ⟨rfl, rfl⟩))
    (fun os started H enc _ => rowTwoColours.lifted os started H enc)
#print axioms TwoColours_holds
end Go.Proofs.Ytlfigdpgdkbknaa

