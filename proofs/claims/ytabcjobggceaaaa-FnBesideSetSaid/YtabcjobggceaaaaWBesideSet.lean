/- FnBesideSet: more points have more beside them. No conditions. -/
import Derived.Test.YtabcjobggceaaaaLw
import Derived.Test.YtabcjobggceaaaaLa
import Derived.Deep.RegionHeld3
import Derived.Deep.DeepCutAuto
namespace Go.Proofs.Ytabcjobggceaaaa
open Go.ChangeShapes Go.WideShapes Go.ChangeAt Go.RowKit
set_option maxHeartbeats 2000000 in
theorem lawBesideSet (A : Option Addr) (n c : Nat) (hm : n ≤ maxLen) (hc : n ≤ c) (w : World) (hB : RdB w w.heap.size A n) :
    Calls Try.prog 8 #[.slice A n c] w fun e w' => e = .returned (.bool true) ∧ Below w.heap.size w w' := by
  unfold maxLen at hm
  by_cases hlen : (n : Int) ≤ 1048576
  · go_enter Try.func8, Try.ntmps8
    go_wp2_with fail
    refine (drawBesideSet A n c (by omega) hc _ hB).mono ?_
    rintro e w1 ⟨A1, c1, l, s, rfl, h10, hr, hb⟩
    have HL := Lib.hid (Lw.start (c1 := c1) hr hb 25)
    clear hr hb
    rcases Sw.svB_cases l s with hv | ⟨G, S, rfl, hG, rfl, hS⟩
    · have hV := Sw.vBes_no hv
      have hI := fun W => implBesideSet l A1 c1 s (by omega) W
      have hS := fun W => specBesideSet l A1 c1 s (by omega) W
      rw [hV] at hI hS
      clear hV
      obtain ⟨_, hcb, hzb, hrb⟩ := HL.out
      go_wp2_with fail
      refine (hI _ hrb).mono ?_
      rintro e w10 ⟨rfl, hb10⟩
      have HL := Lib.hid (HL.out.next hb10)
      clear hcb hzb hrb hb10
      obtain ⟨_, hcb, hzb, hrb⟩ := HL.out
      go_wp2_with fail
      refine (hS _ hrb).mono ?_
      rintro e w11 ⟨rfl, hb11⟩
      have HL := Lib.hid (HL.out.next hb11)
      clear hcb hzb hrb hb11
      obtain ⟨_, hcb, hzb, hrb⟩ := HL.out
      go_wp2_with fail
      refine (alive _).mono ?_
      rintro e w12 ⟨rfl, hb12⟩
      have HL := Lib.hid (HL.out.next hb12)
      clear hcb hzb hrb hb12
      obtain ⟨_, hcb, hzb, hrb⟩ := HL.out
      go_wp2_with fail
      go_ret
      exact ⟨rfl, HL.out.1⟩
    · obtain ⟨ad, rfl, hL⟩ := HL.out.valid hG
      have HL := Lib.hid hL
      have hn9 := hG.le
      have hn1 := hG.pos
      clear hL
      rw [Sw.toI_len] at HL h10 ⊢
      obtain ⟨N, hN0⟩ : ∃ N, N = 2 ^ G.length := ⟨_, rfl⟩
      have hN : (2 : Int) ^ G.length = (N : Int) := by rw [hN0, pow_nat]
      have h512 : N ≤ 512 := by rw [hN0]; exact Sw.pow_le9 hn9
      have hN1 : 1 ≤ N := by rw [hN0]; exact Nat.two_pow_pos _
      have hNw : IntKind.i64.wrap (N : Int) = (N : Int) := IntWalk.i64_in _ (by omega)
      have HN0 := Lib.hid hN0
      clear hN0
      have hS40 := lt40 hn9 hS
      have hall : N - 1 < 2 ^ G.length := by rw [← HN0.out]; omega
      have hI := fun W h => implBesG' G hG ad c1 W h hS
      have hS' := fun W h => specBesG' G hG ad c1 W h hS
      have hC2 := fun W h => implBesG' G hG ad c1 W h hall
      have hXl := Sw.bes_lt hG S
      have hYl := Sw.bes_lt hG (N - 1)
      have hSVX := fun W h => implSV G hG (Sw.bes G S) hXl ad c1 W h
      have hXY : Sw.bes G S &&& Sw.bes G (N - 1) = Sw.bes G S := Sw.sub_and (Sw.bes_sub G (by rw [HN0.out]; exact Sw.sub_all hS))
      have HBS := Lib.hid (fun k => Sw.beside_some hG S k)
      have hbo := fun W => both (Sw.bes G S) (Sw.bes G (N - 1)) (lt40 hn9 hXl) (lt40 hn9 hYl) W
      rw [hXY] at hbo
      obtain ⟨X, hX⟩ : ∃ X, X = Sw.bes G S := ⟨_, rfl⟩
      rw [← hX] at hI hS' hbo HBS hSVX
      obtain ⟨Y, hY⟩ : ∃ Y, Y = Sw.bes G (N - 1) := ⟨_, rfl⟩
      rw [← hY] at hC2 hbo
      have hX40 : X < 1099511627776 := by rw [hX]; exact lt40 hn9 hXl
      have hNI : ((N - 1 : Nat) : Int) = (N : Int) - 1 := by omega
      rw [hNI] at hC2
      have hw1 : IntKind.i64.wrap ((N : Int) - 1) = (N : Int) - 1 := IntWalk.i64_in _ (by omega)
      clear hX hY hXY hXl hYl hall hS hNI
      obtain ⟨_, hcb, hzb, hrb⟩ := HL.out
      go_wp2_with fail
      refine (hI _ hrb).mono ?_
      rintro e w13 ⟨rfl, hb13⟩
      have HL := Lib.hid (HL.out.next hb13)
      clear hcb hzb hrb hb13
      obtain ⟨_, hcb, hzb, hrb⟩ := HL.out
      go_wp2_with fail
      refine (hS' _ hrb).mono ?_
      rintro e w14 ⟨rfl, hb14⟩
      have HL := Lib.hid (HL.out.next hb14)
      clear hcb hzb hrb hb14
      obtain ⟨_, hcb, hzb, hrb⟩ := HL.out
      go_wp2_with fail
      go_loopw [6] (fun i wr => ∃ k : Nat, k ≤ G.length ∧ i = .int .i64 k ∧ Lg w wr w1.heap.size ad c1 G) (fun i _ => (G.length - intOf i).toNat)
      case atStart => exact ⟨0, Nat.zero_le _, rfl, HL.out⟩
      case round =>
        obtain ⟨k, hk, rfl, hL⟩ := hrel
        have HL := Lib.hid hL
        clear hL hcb hzb hrb
        obtain ⟨_, hcb, hzb, hrb⟩ := HL.out
        by_cases hlt : k < G.length
        · have hd : decide ((k : Int) < (G.length : Int)) = true := by rw [decide_eq_true_eq]; omega
          have hck := hrb.cell k hlt
          have hB := fun W => both (Sw.nb G k) S (lt40 hn9 (hG.lt k)) hS40 W
          have hbs := HBS.out k
          obtain ⟨Z, hZ⟩ : ∃ Z, Z = Sw.nb G k &&& S := ⟨_, rfl⟩
          rw [← hZ] at hB hbs
          have h0k := shr_nonneg X k
          clear hZ
          by_cases hbt : X.testBit k = true
          · have hbi : (X : Int) / 2 ^ k % 2 = 1 := by rw [shr_nat]; have := Sw.bit_one.2 hbt; unfold Sw.bit at this; omega
            have hz0 : 0 < Z := by have := hbs.2 hbt; omega
            have hzd : decide (0 < Z) = true := decide_eq_true hz0
            clear hbt hbs
            go_wp2_with fail
            refine (hB _).mono ?_
            rintro e w' ⟨rfl, rfl⟩
            go_wp2_with fail
            go_roundw
            case rel => exact ⟨k + 1, by omega, by go_num, HL.out⟩
            case measure => simp [intOf]; omega
          · have hz0 : Z = 0 := by
              rcases Nat.eq_zero_or_pos Z with q | q
              · exact q
              · exact absurd (hbs.1 (by omega)) hbt
            simp only [Bool.not_eq_true] at hbt
            have hbi : (X : Int) / 2 ^ k % 2 = 0 := by rw [shr_nat]; have := Sw.bit_zero.2 hbt; unfold Sw.bit at this; omega
            subst hz0
            clear hbt hbs
            go_wp2_with fail
            refine (hB _).mono ?_
            rintro e w' ⟨rfl, rfl⟩
            go_wp2_with fail
            go_roundw
            case rel => exact ⟨k + 1, by omega, by go_num, HL.out⟩
            case measure => simp [intOf]; omega
        · have hkn : k = G.length := by omega
          subst hkn
          have hd : decide ((G.length : Int) < (G.length : Int)) = false := by rw [decide_eq_false_iff_not]; omega
          go_wp2_with fail
          go_region_held3 (fun w' => w'.cell? ⟨w1.heap.size, 0, none⟩ = some (.slice (some ad) G.length c1)) (first | exact hcb | exact hS_K1 | exact hS_K2) (first | (go_at_call 31; refine (hbo _).mono ?_; rintro e w' ⟨rfl, rfl⟩) | (have hq := hr_K1; clear hq; go_at_call 29; refine (hC2 _ (by exact hr_K1)).mono ?_; rintro e Y2 ⟨rfl, z2⟩; have K2 := Lib.hid (K1.out.next (by exact z2)); have hS_K2 := K2.out.2.1; have hr_K2 := K2.out.2.2.2) | (go_at_call 14; refine (hSVX _ (by exact hrb)).mono ?_; rintro e Y1 ⟨rfl, z1⟩; have K1 := Lib.hid (HL.out.next (undrew (by exact z1))); have hS_K1 := K1.out.2.1; have hr_K1 := K1.out.2.2.2))
          go_wp2_with fail
          go_ret
          exact ⟨rfl, K2.out.1⟩
  · go_enter Try.func8, Try.ntmps8
    go_wp2_with fail
    go_ret
    exact ⟨rfl, Below.refl _ _⟩
namespace rowBesideSet
theorem contract (H : Type) (enc : TypeId × Value → H) (W : World) (base : Nat) (args : Array Value) (ds gs : List (DataW H)) (before : List MemPlace)
    (hval : ∀ (j : Nat) t v, Try.f8.params[j]? = some t → args[j]? = some v → Value.okWide Try.prog W .any base t v)
    (hW : DataW.Whole enc Try.prog Try.f8.params.toList Rows.fnBesideSetSpec.vars false W args.toList ds gs before) :
    Calls Try.prog 8 args W fun e W' => ∃ v, e = .returned v ∧ Rows.fnBesideSetSpec.post enc Try.prog Try.f8 false true false false W args v W' := by
  have hW' := hW
  obtain ⟨p, q, hA0, hV, rfl, _, _⟩ := hW
  obtain ⟨rfl, rfl⟩ := trodVars_none hV
  simp only [List.append_nil] at hW'
  have hlt : ∀ x ∈ p, x.block < W.heap.size := fun x hx => hW'.lt x hx
  have hA : DataW.TrodAll enc Try.prog W 0 (fun _ => true) true Try.f8.params.toList args.toList ds p := hA0
  rw [Try.params8] at hA hval
  obtain ⟨v0, vs0, d0, ds0, p0, q0, hargs, rfl, rfl, h0, r0⟩ := trodAll_cons hA
  obtain ⟨rfl, rfl, rfl⟩ := trodAll_nil r0
  obtain rfl : args = #[v0] := by cases args; simp_all
  obtain ⟨A0, n0, c0, rfl, m0, k0, g0⟩ := open_bytes (hval 0 _ v0 rfl rfl) h0 (fun x hx => hlt x (by simp [hx]))
  refine (lawBesideSet A0 n0 c0 m0 k0 W g0).mono fun e W' ⟨he, hg⟩ => ?_
  subst he
  exact ⟨_, rfl, post_true rfl (by kernel_rfl) rfl (by kernel_rfl) hW' hA0 hg⟩
set_option maxRecDepth 100000 in
theorem lifted (os : Os) (started : os.Started) (H : Type) (enc : TypeId × Value → H) :
    ReturnsInHanded {} Try.checked os 8 .any (Rows.fnBesideSetSpec.pre6 enc Try.prog Try.f8 Rows.fnBesideSetRow.domain false) (Rows.fnBesideSetSpec.post enc Try.prog Try.f8 false true false false) := by
  refine returnsInHanded_of_change (C := Try.checked) own_knob started (by kernel_rfl) Try.func8
    (ChangeSpec.witness6 (enc := enc) (C := Try.checked) false ⟨#[], #[.slice none 0 0], []⟩ 8 (by kernel_rfl) (by kernel_rfl) (by kernel_rfl) (by kernel_rfl)) ?_
  intro W base args ds gs before hval hW _ _
  exact contract H enc W base args ds gs before hval hW
end rowBesideSet
theorem BesideSet_holds : Rows.FnBesideSetSaid :=
  OpenClaim.holds_of_wide 8 Try.f8 rfl rfl rfl rfl rfl rfl rfl ⟨rfl, rfl, rfl, rfl, rfl⟩ rfl rfl rfl rfl rfl (by kernel_rfl) Try.func8 (by kernel_rfl)
    (of_decide_eq_true (by kernel_rfl)) (by unfold Func.isWrapper; first | (rw [if_pos (by decide +kernel)]; kernel_rfl) | (rw [if_neg (by decide +kernel)]; exact ⟨rfl, rfl⟩))
    (fun os started H enc _ => rowBesideSet.lifted os started H enc)
#print axioms BesideSet_holds
end Go.Proofs.Ytabcjobggceaaaa

