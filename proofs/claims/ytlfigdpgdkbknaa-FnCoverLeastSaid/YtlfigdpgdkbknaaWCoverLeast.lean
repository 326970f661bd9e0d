/- FnCoverLeast: what is not alone covers all lines. No conditions. -/
import Derived.Test.YtlfigdpgdkbknaaLw
import Derived.Test.YtlfigdpgdkbknaaLb
import Derived.Deep.RegionHeld3
import Derived.Deep.DeepCutAuto
namespace Go.Proofs.Ytlfigdpgdkbknaa
open Go.ChangeShapes Go.WideShapes Go.ChangeAt Go.RowKit
/-- is there a cover of D points among the first k sets -/
def covSome (G : List Nat) (D k : Nat) : Bool := Sw.lp (fun s x => x || (Sw.covK G s G.length && decide (Sw.cnt s = D))) false k
theorem covSome_succ (G : List Nat) (D k : Nat) : covSome G D (k + 1) = (covSome G D k || (Sw.covK G k G.length && decide (Sw.cnt k = D))) := rfl
theorem covSome_mk {G : List Nat} {D s : Nat} (h1 : Sw.covK G s G.length = true) (h2 : Sw.cnt s = D) : ∀ k, s < k → covSome G D k = true
  | 0, h => by omega
  | k + 1, h => by
    rw [covSome_succ]
    rcases Nat.lt_succ_iff_lt_or_eq.1 h with q | q
    · rw [covSome_mk h1 h2 k q]; rfl
    · subst q; rw [h1, decide_eq_true h2]; simp
theorem covSome_end {G : List Nat} (hG : Sw.GVN G) {D N : Nat} (hD : D + Sw.am G = G.length) (hN : N = 2 ^ G.length) : covSome G D N = true := by
  obtain ⟨s, h1, h2, h3⟩ := Sw.cov_some hG
  exact covSome_mk h2 (by omega) N (by rw [hN]; exact h1)
set_option maxRecDepth 100000 in
set_option maxHeartbeats 4000000 in
theorem lawCoverLeast (A : Option Addr) (n c : Nat) (hm : n ≤ maxLen) (hc : n ≤ c) (w : World) (hB : RdB w w.heap.size A n) :
    Calls Try.prog 7 #[.slice A n c] w fun e w' => e = .returned (.bool true) ∧ Below w.heap.size w w' := by
  unfold maxLen at hm
  by_cases hlen : (n : Int) ≤ 1048576
  · go_enter Try.func7, Try.ntmps7
    go_wp2_with fail
    refine (drawCoverLeast A n c (by omega) hc _ hB).mono ?_
    rintro e w1 ⟨A1, c1, l, rfl, h10, hr, hb⟩
    have HL := Lib.hid (Lw.start (c1 := c1) hr hb 25)
    clear hr hb
    rcases Sw.gvB_cases l with hv | ⟨G, rfl, hG⟩
    · have hV := Sw.vCover_no hv
      have hI := fun W => implCoverLeast l A1 c1 (by omega) W
      have hS := fun W => specCoverLeast l A1 c1 (by omega) W
      rw [hV] at hI hS
      clear hV
      obtain ⟨_, hcb, hzb, hrb⟩ := HL.out
      go_wp2_with fail
      refine (hI _ hrb).mono ?_
      rintro e w16 ⟨rfl, hb16⟩
      have HL := Lib.hid (HL.out.next hb16)
      clear hcb hzb hrb hb16
      obtain ⟨_, hcb, hzb, hrb⟩ := HL.out
      go_wp2_with fail
      refine (hS _ hrb).mono ?_
      rintro e w17 ⟨rfl, hb17⟩
      have HL := Lib.hid (HL.out.next hb17)
      clear hcb hzb hrb hb17
      obtain ⟨_, hcb, hzb, hrb⟩ := HL.out
      go_wp2_with fail
      refine (alive _).mono ?_
      rintro e w18 ⟨rfl, hb18⟩
      have HL := Lib.hid (HL.out.next hb18)
      clear hcb hzb hrb hb18
      obtain ⟨_, hcb, hzb, hrb⟩ := HL.out
      go_wp2_with fail
      go_ret
      exact ⟨rfl, HL.out.1⟩
    · obtain ⟨ad, rfl, hL⟩ := HL.out.valid hG
      have HL := Lib.hid hL
      have hn9 := hG.le
      have hn1 := hG.pos
      clear hL
      rw [Sw.toI_len] at HL h10 ⊢
      obtain ⟨N, hN0⟩ : ∃ N, N = 2 ^ G.length := ⟨_, rfl⟩
      have hN : (2 : Int) ^ G.length = (N : Int) := by rw [hN0, pow_nat]
      have h512 : N ≤ 512 := by rw [hN0]; exact Sw.pow_le9 hn9
      have hN1 : 1 ≤ N := by rw [hN0]; exact Nat.two_pow_pos _
      have hNw : IntKind.i64.wrap (N : Int) = (N : Int) := IntWalk.i64_in _ (by omega)
      have HN0 := Lib.hid hN0
      clear hN0
      have ham := Sw.am_le hG
      obtain ⟨D, hD⟩ : ∃ D, D + Sw.am G = G.length := ⟨G.length - Sw.am G, by omega⟩
      have hDI : (G.length : Int) - (Sw.am G : Nat) = (D : Int) := by omega
      have hI := fun W h => implCoverG G hG ad c1 W h
      have hS := fun W h => specCoverG G hG ad c1 W h
      rw [hDI] at hI hS
      have hD9 : D ≤ 9 := by omega
      have HCE := Lib.hid (covSome_end hG hD HN0.out)
      have HLE : Hid (∀ s, s < 2 ^ G.length → Sw.covK G s G.length = true → D ≤ Sw.cnt s) := fun s hs h => by have := Sw.cov_least hG hs h; omega
      have HTW : Hid (∀ C, Sw.Col G C → 2 * D ≤ G.length) := fun C h => by have := Sw.cov_two hG h; omega
      clear hDI ham hD
      obtain ⟨_, hcb, hzb, hrb⟩ := HL.out
      go_wp2_with fail
      refine (hI _ hrb).mono ?_
      rintro e w19 ⟨rfl, hb19⟩
      have HL := Lib.hid (HL.out.next hb19)
      clear hcb hzb hrb hb19
      obtain ⟨_, hcb, hzb, hrb⟩ := HL.out
      go_wp2_with fail
      refine (hS _ hrb).mono ?_
      rintro e w20 ⟨rfl, hb20⟩
      have HL := Lib.hid (HL.out.next hb20)
      clear hcb hzb hrb hb20
      obtain ⟨_, hcb, hzb, hrb⟩ := HL.out
      go_wp2_with fail
      go_loopw [6, 7] (fun s i wr => ∃ k : Nat, k ≤ N ∧ i = .int .i64 k ∧ s = .bool (covSome G D k) ∧ Lg w wr w1.heap.size ad c1 G) (fun _ i _ => (N - intOf i).toNat)
      case atStart => exact ⟨0, Nat.zero_le _, rfl, rfl, HL.out⟩
      case round =>
        obtain ⟨k, hk, rfl, rfl, hL⟩ := hrel
        have HL := Lib.hid hL
        clear hL hcb hzb hrb
        by_cases hlt : (k : Int) ≤ (N : Int) - 1
        · have hkN : k < 2 ^ G.length := by rw [← HN0.out]; omega
          have hRl := Sw.rest_lt G k
          have hrk : (N : Int) - 1 - (k : Int) = ((Sw.rest G k : Nat) : Int) := by have := HN0.out; unfold Sw.rest; omega
          have hC2 := fun W h => implAloneG G hG ad c1 W h hRl
          have HCA := Lib.hid (Sw.cov_alone hG hkN)
          have HCL := Lib.hid (HLE.out k hkN)
          have HCS := Lib.hid (covSome_succ G D k)
          have HCK := Lib.hid (fun j => Sw.covK_succ G k j)
          obtain ⟨R, hR⟩ : ∃ R, R = Sw.rest G k := ⟨_, rfl⟩
          rw [← hR] at hrk hC2 HCA HCK hRl
          have hR40 := lt40 hn9 hRl
          have hk40 := lt40 hn9 hkN
          clear hR
          obtain ⟨_, hcb, hzb, hrb⟩ := HL.out
          obtain ⟨so, hso⟩ : ∃ so, so = covSome G D k := ⟨_, rfl⟩
          rw [← hso] at HCS ⊢
          clear hso
          go_wp2_with fail
          go_loopw [8, 9] (fun x i wr => ∃ j : Nat, j ≤ G.length ∧ i = .int .i64 j ∧ x = .bool (Sw.covK G k j) ∧ Lg w wr w1.heap.size ad c1 G) (fun _ i _ => (G.length - intOf i).toNat)
          case atStart => exact ⟨0, Nat.zero_le _, rfl, rfl, HL.out⟩
          case round =>
            obtain ⟨j, hj, rfl, rfl, hL⟩ := hrel
            have HL := Lib.hid hL
            clear hL hcb hzb hrb
            obtain ⟨_, hcb, hzb, hrb⟩ := HL.out
            by_cases hjl : j < G.length
            · have hd : decide ((j : Int) < (G.length : Int)) = true := by rw [decide_eq_true_eq]; omega
              have HK := Lib.hid (HCK.out j)
              obtain ⟨co, hco⟩ : ∃ co, co = Sw.covK G k j := ⟨_, rfl⟩
              rw [← hco] at HK ⊢
              clear hco
              cases co
              · go_wp2_with fail
                go_roundw
                case rel => exact ⟨j + 1, by omega, by go_num, by rw [HK.out]; rfl, HL.out⟩
                case measure => simp [intOf]; omega
              · have h0k := shr_nonneg k j
                by_cases hbt : k.testBit j = true
                · have hbi : (k : Int) / 2 ^ j % 2 = 1 := by rw [shr_nat]; have := Sw.bit_one.2 hbt; unfold Sw.bit at this; omega
                  have HK2 : Hid (Sw.covK G k (j + 1) = true) := by show _ = _; rw [HK.out, hbt]; rfl
                  clear hbt
                  go_wp2_with fail
                  go_roundw
                  case rel => exact ⟨j + 1, by omega, by go_num, by rw [HK2.out], HL.out⟩
                  case measure => simp [intOf]; omega
                · simp only [Bool.not_eq_true] at hbt
                  have hbi : (k : Int) / 2 ^ j % 2 = 0 := by rw [shr_nat]; have := Sw.bit_zero.2 hbt; unfold Sw.bit at this; omega
                  have HK2 : Hid (Sw.covK G k (j + 1) = decide (Sw.nb G j &&& R = 0)) := by show _ = _; rw [HK.out, hbt]; simp
                  have hck := hrb.cell j hjl
                  have hB := fun W => both (Sw.nb G j) R (lt40 hn9 (hG.lt j)) hR40 W
                  obtain ⟨Z, hZ⟩ : ∃ Z, Z = Sw.nb G j &&& R := ⟨_, rfl⟩
                  rw [← hZ] at HK2 hB
                  clear hbt hZ
                  by_cases hz0 : Z = 0
                  · subst hz0
                    go_wp2_with fail
                    refine (hB _).mono ?_
                    rintro e w' ⟨rfl, rfl⟩
                    go_wp2_with fail
                    go_roundw
                    case rel => exact ⟨j + 1, by omega, by go_num, by rw [HK2.out]; rfl, HL.out⟩
                    case measure => simp [intOf]; omega
                  · rw [decide_eq_false hz0] at HK2
                    have hzf : ((Z : Int) == 0) = false := by rw [beq_nat_zero]; exact decide_eq_false hz0
                    go_wp2_with fail
                    refine (hB _).mono ?_
                    rintro e w' ⟨rfl, rfl⟩
                    go_wp2_with fail
                    go_roundw
                    case rel => exact ⟨j + 1, by omega, by go_num, by rw [HK2.out], HL.out⟩
                    case measure => simp [intOf]; omega
            · have hjn : j = G.length := by omega
              subst hjn
              have hd : decide ((G.length : Int) < (G.length : Int)) = false := by rw [decide_eq_false_iff_not]; omega
              obtain ⟨co, hco⟩ : ∃ co, co = Sw.covK G k G.length := ⟨_, rfl⟩
              rw [← hco] at HCS HCA HCL ⊢
              clear hco
              cases co
              · have h0 : ¬ (Sw.bes G R &&& R = 0) := fun h => by have := HCA.out.2 h; cases this
                rw [decide_eq_false h0] at hC2
                clear h0
                go_wp2_with fail
                refine (hC2 _ hrb).mono ?_
                rintro e w8 ⟨rfl, hb8⟩
                have HL := Lib.hid (HL.out.next hb8)
                clear hcb hzb hrb hb8
                cases so
                all_goals
                  go_wp2_with fail
                  go_roundw
                  case rel => exact ⟨k + 1, by omega, by go_num, by rw [HCS.out]; rfl, HL.out⟩
                  case measure => simp [intOf]; omega
              · have h0 : Sw.bes G R &&& R = 0 := HCA.out.1 rfl
                rw [decide_eq_true h0] at hC2
                have hge := HCL.out rfl
                have hbt := fun W => bits k hk40 W
                obtain ⟨Q, hQ⟩ : ∃ Q, Q = Sw.cnt k := ⟨_, rfl⟩
                rw [← hQ] at hge hbt HCS
                clear h0 hQ
                go_wp2_with fail
                refine (hbt _).mono ?_
                rintro e w' ⟨rfl, rfl⟩
                go_wp2_with fail
                refine (hC2 _ hrb).mono ?_
                rintro e w8 ⟨rfl, hb8⟩
                have HL := Lib.hid (HL.out.next hb8)
                clear hcb hzb hrb hb8
                cases so
                · by_cases hQD : Q = D
                  · subst hQD
                    go_wp2_with fail
                    refine (hbt _).mono ?_
                    rintro e w' ⟨rfl, rfl⟩
                    go_wp2_with fail
                    go_roundw
                    case rel => exact ⟨k + 1, by omega, by go_num, by rw [HCS.out]; simp, HL.out⟩
                    case measure => simp [intOf]; omega
                  · have hqf : ((Q : Int) == (D : Int)) = false := by rw [beq_nat]; exact decide_eq_false hQD
                    have HQF : Hid (decide (Q = D) = false) := decide_eq_false hQD
                    clear hQD
                    go_wp2_with fail
                    refine (hbt _).mono ?_
                    rintro e w' ⟨rfl, rfl⟩
                    go_wp2_with fail
                    go_roundw
                    case rel => exact ⟨k + 1, by omega, by go_num, by rw [HCS.out, HQF.out]; rfl, HL.out⟩
                    case measure => simp [intOf]; omega
                · go_wp2_with fail
                  go_roundw
                  case rel => exact ⟨k + 1, by omega, by go_num, by rw [HCS.out]; rfl, HL.out⟩
                  case measure => simp [intOf]; omega
        · have hkN : k = N := by omega
          rw [hkN, HCE.out]
          clear hkN
          obtain ⟨_, hcb, hzb, hrb⟩ := HL.out
          rcases htc : Sw.tc G with _ | C
          · have hT := fun W h => implTcNone G hG ad c1 W h htc
            clear htc
            go_wp2_with fail
            refine (hT _ hrb).mono ?_
            rintro e w8 ⟨rfl, hb8⟩
            have HL := Lib.hid (HL.out.next hb8)
            clear hcb hzb hrb hb8
            obtain ⟨_, hcb, hzb, hrb⟩ := HL.out
            go_wp2_with fail
            go_ret
            exact ⟨rfl, HL.out.1⟩
          · have hT := fun W h => implTcSome G hG ad c1 W h htc
            have h2 : 2 * (D : Int) ≤ (G.length : Int) := by have := HTW.out C (Sw.tc_some htc).1; omega
            clear htc
            go_wp2_with fail
            refine (hT _ hrb).mono ?_
            rintro e w8 ⟨rfl, hb8⟩
            have HL := Lib.hid (HL.out.next hb8)
            clear hcb hzb hrb hb8
            obtain ⟨_, hcb, hzb, hrb⟩ := HL.out
            go_wp2_with fail
            go_ret
            exact ⟨rfl, HL.out.1⟩
  · go_enter Try.func7, Try.ntmps7
    go_wp2_with fail
    go_ret
    exact ⟨rfl, Below.refl _ _⟩
namespace rowCoverLeast
theorem contract (H : Type) (enc : TypeId × Value → H) (W : World) (base : Nat) (args : Array Value) (ds gs : List (DataW H)) (before : List MemPlace)
    (hval : ∀ (j : Nat) t v, Try.f7.params[j]? = some t → args[j]? = some v → Value.okWide Try.prog W .any base t v)
    (hW : DataW.Whole enc Try.prog Try.f7.params.toList Rows.fnCoverLeastSpec.vars false W args.toList ds gs before) :
    Calls Try.prog 7 args W fun e W' => ∃ v, e = .returned v ∧ Rows.fnCoverLeastSpec.post enc Try.prog Try.f7 false true false false W args v W' := by
  have hW' := hW
  obtain ⟨p, q, hA0, hV, rfl, _, _⟩ := hW
  obtain ⟨rfl, rfl⟩ := trodVars_none hV
  simp only [List.append_nil] at hW'
  have hlt : ∀ x ∈ p, x.block < W.heap.size := fun x hx => hW'.lt x hx
  have hA : DataW.TrodAll enc Try.prog W 0 (fun _ => true) true Try.f7.params.toList args.toList ds p := hA0
  rw [Try.params7] at hA hval
  obtain ⟨v0, vs0, d0, ds0, p0, q0, hargs, rfl, rfl, h0, r0⟩ := trodAll_cons hA
  obtain ⟨rfl, rfl, rfl⟩ := trodAll_nil r0
  obtain rfl : args = #[v0] := by cases args; simp_all
  obtain ⟨A0, n0, c0, rfl, m0, k0, g0⟩ := open_bytes (hval 0 _ v0 rfl rfl) h0 (fun x hx => hlt x (by simp [hx]))
  refine (lawCoverLeast A0 n0 c0 m0 k0 W g0).mono fun e W' ⟨he, hg⟩ => ?_
  subst he
  exact ⟨_, rfl, post_true rfl (by kernel_rfl) rfl (by kernel_rfl) hW' hA0 hg⟩
set_option maxRecDepth 100000 in
theorem lifted (os : Os) (started : os.Started) (H : Type) (enc : TypeId × Value → H) :
    ReturnsInHanded {} Try.checked os 7 .any (Rows.fnCoverLeastSpec.pre6 enc Try.prog Try.f7 Rows.fnCoverLeastRow.domain false) (Rows.fnCoverLeastSpec.post enc Try.prog Try.f7 false true false false) := by
  refine returnsInHanded_of_change (C := Try.checked) own_knob started (by kernel_rfl) Try.func7
    (ChangeSpec.witness6 (enc := enc) (C := Try.checked) false ⟨#[], #[.slice none 0 0], []⟩ 8 (by kernel_rfl) (by kernel_rfl) (by kernel_rfl) (by kernel_rfl)) ?_
  intro W base args ds gs before hval hW _ _
  exact contract H enc W base args ds gs before hval hW
end rowCoverLeast
theorem CoverLeast_holds : Rows.FnCoverLeastSaid :=
  OpenClaim.holds_of_wide 7 Try.f7 rfl rfl rfl rfl rfl rfl rfl ⟨rfl, rfl, rfl, rfl, rfl⟩ rfl rfl rfl rfl rfl (by kernel_rfl) Try.func7 (by kernel_rfl)
    (of_decide_eq_true (by kernel_rfl)) (by unfold Func.isWrapper; first | (rw [if_pos (by decide +kernel)]; kernel_rfl) | (rw [if_neg (by decide +kernel)]; exact ⟨rfl, rfl⟩))
    (fun os started H enc _ => rowCoverLeast.lifted os started H enc)
#print axioms CoverLeast_holds
end Go.Proofs.Ytlfigdpgdkbknaa

