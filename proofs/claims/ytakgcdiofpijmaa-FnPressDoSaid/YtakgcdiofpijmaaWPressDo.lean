/- FnPressDo: twice is nothing. No conditions. -/
import Derived.Test.YtakgcdiofpijmaaLw
import Derived.Test.YtakgcdiofpijmaaPress
import Derived.Test.YtakgcdiofpijmaaDpD
import Derived.Test.YtakgcdiofpijmaaMath9
import Derived.Deep.RegionHeld3
import Derived.Deep.DeepCutAuto
namespace Go.Proofs.Ytakgcdiofpijmaa
open Go.ChangeShapes Go.WideShapes Go.ChangeAt Go.RowKit
theorem pd_cases (l : List Int) (s p : Int) : Sw.vPressDo l s p = -1 ∨ ∃ (G : List Nat) (S k : Nat), l = Sw.toI G ∧ Sw.GVN G ∧ s = (S : Int) ∧ S < 2 ^ G.length ∧ p = (k : Int) ∧ k < G.length := by
  rcases Sw.svB_cases l s with hv | ⟨G, S, rfl, hG, rfl, hS⟩
  · exact .inl (Sw.vPressDo_no1 hv)
  cases hp : Sw.ptB (Sw.toI G) p
  · exact .inl (Sw.vPressDo_no2 hp)
  · rcases Sw.ptB_cases (Sw.toI G) p with h | ⟨G2, k, e, _, rfl, hk⟩
    · rw [hp] at h; cases h
    · refine .inr ⟨G, S, k, rfl, hG, rfl, hS, rfl, ?_⟩
      have := congrArg List.length e
      rw [Sw.toI_len, Sw.toI_len] at this
      omega
set_option maxHeartbeats 4000000 in
theorem lawPressDo (A : Option Addr) (n c : Nat) (hm : n ≤ maxLen) (hc : n ≤ c) (w : World) (hB : RdB w w.heap.size A n) :
    Calls Try.prog 6 #[.slice A n c] w fun e w' => e = .returned (.bool true) ∧ Below w.heap.size w w' := by
  unfold maxLen at hm
  by_cases hlen : (n : Int) ≤ 1048576
  · go_enter Try.func6, Try.ntmps6
    go_wp2_with fail
    refine (drawPressDo A n c (by omega) hc _ hB).mono ?_
    rintro e w1 ⟨A1, c1, l, s, p, rfl, h10, hr, hb⟩
    have HL := Lib.hid (Lw.start (c1 := c1) hr hb 27)
    clear hr hb
    have hI := fun W => implPressDo l A1 c1 s p (by omega) W
    have hS := fun W => specPressDo l A1 c1 s p (by omega) W
    rcases pd_cases l s p with hV | ⟨G, S, k0, rfl, hG, rfl, hS0, rfl, hk0⟩
    · rw [hV] at hI hS
      clear hV
      obtain ⟨_, hcb, hzb, hrb⟩ := HL.out
      go_wp2_with fail
      refine (hI _ hrb).mono ?_
      rintro e w15 ⟨rfl, hb15⟩
      have HL := Lib.hid (HL.out.next hb15)
      clear hcb hzb hrb hb15
      obtain ⟨_, hcb, hzb, hrb⟩ := HL.out
      go_wp2_with fail
      refine (hS _ hrb).mono ?_
      rintro e w16 ⟨rfl, hb16⟩
      have HL := Lib.hid (HL.out.next hb16)
      clear hcb hzb hrb hb16
      obtain ⟨_, hcb, hzb, hrb⟩ := HL.out
      go_wp2_with fail
      refine (alive _).mono ?_
      rintro e w17 ⟨rfl, hb17⟩
      have HL := Lib.hid (HL.out.next hb17)
      clear hcb hzb hrb hb17
      obtain ⟨_, hcb, hzb, hrb⟩ := HL.out
      go_wp2_with fail
      go_ret
      exact ⟨rfl, HL.out.1⟩
    · clear hI hS
      obtain ⟨ad, rfl, hL⟩ := HL.out.valid hG
      have HL := Lib.hid hL
      have hn9 := hG.le
      have hn1 := hG.pos
      clear hL
      rw [Sw.toI_len] at HL h10 ⊢
      have hP : Hid (∀ T k, T < 2 ^ G.length → k < G.length → ∀ W, RdG W W.heap.size ad G → Calls Try.prog 29 #[.agg #[.slice (some ad) G.length c1], .int .i64 (T : Nat), .int .i64 (k : Nat)] W fun e w' => e = .returned (.int .i64 ((T ^^^ Sw.row G k : Nat) : Int)) ∧ Below W.heap.size W w') := by
        intro T k hT hk W h
        have q := implPressDo (Sw.toI G) (some ad) c1 (T : Nat) (k : Nat) (by rw [Sw.toI_len]; omega) W h.toI
        rw [Sw.vPressDo_yes hG hT hk, Sw.toI_len] at q; exact q
      have hI := hP.out S k0 hS0 hk0
      have hS := fun W h => specPressDo (Sw.toI G) (some ad) c1 (S : Nat) (k0 : Nat) (by rw [Sw.toI_len]; omega) W h
      rw [Sw.vPressDo_yes hG hS0 hk0, Sw.toI_len] at hS
      have hXl : S ^^^ Sw.row G k0 < 2 ^ G.length := Nat.xor_lt_two_pow hS0 (Sw.row_lt hG hk0)
      have hXne : ¬ S ^^^ Sw.row G k0 = S := Sw.row_ne hG S k0
      have hBk := hP.out (S ^^^ Sw.row G k0) k0 hXl hk0
      rw [Nat.xor_assoc, Nat.xor_self, Nat.xor_zero] at hBk
      have hSV := fun W h => implSV G hG (S ^^^ Sw.row G k0) hXl ad c1 W h
      have HC : Hid (∀ k, k < G.length → ∀ W, RdG W W.heap.size ad G → Calls Try.prog 29 #[.agg #[.slice (some ad) G.length c1], .int .i64 ((S ^^^ Sw.row G k : Nat) : Int), .int .i64 (k0 : Nat)] W fun e w' => e = .returned (.int .i64 (((S ^^^ Sw.row G k0) ^^^ Sw.row G k : Nat) : Int)) ∧ Below W.heap.size W w') := by
        intro k hk W h
        have q := hP.out (S ^^^ Sw.row G k) k0 (Nat.xor_lt_two_pow hS0 (Sw.row_lt hG hk)) hk0 W h
        rw [show (S ^^^ Sw.row G k) ^^^ Sw.row G k0 = (S ^^^ Sw.row G k0) ^^^ Sw.row G k by rw [Nat.xor_assoc, Nat.xor_assoc, Nat.xor_comm (Sw.row G k)]] at q
        exact q
      have HX : Hid (∀ k, k < G.length → ∀ W, RdG W W.heap.size ad G → Calls Try.prog 29 #[.agg #[.slice (some ad) G.length c1], .int .i64 ((S ^^^ Sw.row G k0 : Nat) : Int), .int .i64 (k : Nat)] W fun e w' => e = .returned (.int .i64 (((S ^^^ Sw.row G k0) ^^^ Sw.row G k : Nat) : Int)) ∧ Below W.heap.size W w') := fun k hk W h => hP.out _ k hXl hk W h
      have HS : Hid (∀ k, k < G.length → ∀ W, RdG W W.heap.size ad G → Calls Try.prog 29 #[.agg #[.slice (some ad) G.length c1], .int .i64 (S : Nat), .int .i64 (k : Nat)] W fun e w' => e = .returned (.int .i64 ((S ^^^ Sw.row G k : Nat) : Int)) ∧ Below W.heap.size W w') := fun k hk W h => hP.out _ k hS0 hk W h
      have hS9 := Nat.lt_of_lt_of_le hS0 (Sw.pow_le9 hn9)
      have hX9 := Nat.lt_of_lt_of_le hXl (Sw.pow_le9 hn9)
      obtain ⟨X, hX⟩ : ∃ X, X = S ^^^ Sw.row G k0 := ⟨_, rfl⟩
      rw [← hX] at hI hS hBk hSV HC HX hX9 hXne hXl
      have hne : ((X : Int) != (S : Int)) = true := by rw [bne_iff_ne]; omega
      clear hX hP
      obtain ⟨_, hcb, hzb, hrb⟩ := HL.out
      go_wp2_with fail
      refine (hI _ hrb).mono ?_
      rintro e w18 ⟨rfl, hb18⟩
      have HL := Lib.hid (HL.out.next hb18)
      clear hcb hzb hrb hb18
      obtain ⟨_, hcb, hzb, hrb⟩ := HL.out
      go_wp2_with fail
      refine (hS _ hrb.toI).mono ?_
      rintro e w19 ⟨rfl, hb19⟩
      have HL := Lib.hid (HL.out.next hb19)
      clear hcb hzb hrb hb19
      obtain ⟨_, hcb, hzb, hrb⟩ := HL.out
      go_wp2_with fail
      go_loopw [7] (fun i wr => ∃ k : Nat, k ≤ G.length ∧ i = .int .i64 k ∧ Lg w wr w1.heap.size ad c1 G) (fun i _ => (G.length - intOf i).toNat)
      case atStart => exact ⟨0, Nat.zero_le _, rfl, HL.out⟩
      case round =>
        obtain ⟨k, hk, rfl, hL⟩ := hrel
        have HL := Lib.hid hL
        clear hL hcb hzb hrb
        obtain ⟨_, hcb, hzb, hrb⟩ := HL.out
        by_cases hlt : k < G.length
        · have hd : decide ((k : Int) < (G.length : Int)) = true := by rw [decide_eq_true_eq]; omega
          have hq1 := HX.out k hlt
          have hq2 := HS.out k hlt
          have hq3 := HC.out k hlt
          have hr9 := Nat.lt_of_lt_of_le (Sw.row_lt hG hlt) (Sw.pow_le9 hn9)
          obtain ⟨Z, hZ⟩ : ∃ Z, Z = X ^^^ Sw.row G k := ⟨_, rfl⟩
          obtain ⟨V, hV⟩ : ∃ V, V = S ^^^ Sw.row G k := ⟨_, rfl⟩
          rw [← hZ] at hq1 hq3
          rw [← hV] at hq2 hq3
          clear hZ hV hr9
          go_wp2_with fail
          go_region_held3 (fun w' => w'.cell? ⟨w1.heap.size, 0, none⟩ = some (.slice (some ad) G.length c1)) (first | exact hcb | exact hS_K1 | exact hS_K2 | exact hS_K3) (first | (have hq := hr_K2; clear hq; go_at_call 29; refine (hq3 _ (by exact hr_K2)).mono ?_; rintro e Y3 ⟨rfl, z3⟩; have K3 := Lib.hid (K2.out.next (by exact z3)); have hS_K3 := K3.out.2.1; have hr_K3 := K3.out.2.2.2) | (have hq := hr_K1; clear hq; go_at_call 29; refine (hq2 _ (by exact hr_K1)).mono ?_; rintro e Y2 ⟨rfl, z2⟩; have K2 := Lib.hid (K1.out.next (by exact z2)); have hS_K2 := K2.out.2.1; have hr_K2 := K2.out.2.2.2) | (go_at_call 29; refine (hq1 _ (by exact hrb)).mono ?_; rintro e Y1 ⟨rfl, z1⟩; have K1 := Lib.hid (HL.out.next (undrew (by exact z1))); have hS_K1 := K1.out.2.1; have hr_K1 := K1.out.2.2.2))
          go_wp2_with fail
          go_roundw
          case rel => exact ⟨k + 1, by omega, by go_num, K3.out⟩
          case measure => simp [intOf]; omega
        · have hkn : k = G.length := by omega
          subst hkn
          have hd : decide ((G.length : Int) < (G.length : Int)) = false := by rw [decide_eq_false_iff_not]; omega
          go_wp2_with fail
          refine (hBk _ hrb).mono ?_
          rintro e w8 ⟨rfl, hb8⟩
          have HL := Lib.hid (HL.out.next hb8)
          clear hcb hzb hrb hb8
          obtain ⟨_, hcb, hzb, hrb⟩ := HL.out
          go_wp2_with fail
          refine (hSV _ hrb).mono ?_
          rintro e w9 ⟨rfl, hb9⟩
          have HL := Lib.hid (HL.out.next hb9)
          go_wp2_with fail
          go_ret
          exact ⟨rfl, HL.out.1⟩
  · go_enter Try.func6, Try.ntmps6
    go_wp2_with fail
    go_ret
    exact ⟨rfl, Below.refl _ _⟩
namespace rowPressDo
theorem contract (H : Type) (enc : TypeId × Value → H) (W : World) (base : Nat) (args : Array Value) (ds gs : List (DataW H)) (before : List MemPlace)
    (hval : ∀ (j : Nat) t v, Try.f6.params[j]? = some t → args[j]? = some v → Value.okWide Try.prog W .any base t v)
    (hW : DataW.Whole enc Try.prog Try.f6.params.toList Rows.fnPressDoSpec.vars false W args.toList ds gs before) :
    Calls Try.prog 6 args W fun e W' => ∃ v, e = .returned v ∧ Rows.fnPressDoSpec.post enc Try.prog Try.f6 false true false false W args v W' := by
  have hW' := hW
  obtain ⟨p, q, hA0, hV, rfl, _, _⟩ := hW
  obtain ⟨rfl, rfl⟩ := trodVars_none hV
  simp only [List.append_nil] at hW'
  have hlt : ∀ x ∈ p, x.block < W.heap.size := fun x hx => hW'.lt x hx
  have hA : DataW.TrodAll enc Try.prog W 0 (fun _ => true) true Try.f6.params.toList args.toList ds p := hA0
  rw [Try.params6] at hA hval
  obtain ⟨v0, vs0, d0, ds0, p0, q0, hargs, rfl, rfl, h0, r0⟩ := trodAll_cons hA
  obtain ⟨rfl, rfl, rfl⟩ := trodAll_nil r0
  obtain rfl : args = #[v0] := by cases args; simp_all
  obtain ⟨A0, n0, c0, rfl, m0, k0, g0⟩ := open_bytes (hval 0 _ v0 rfl rfl) h0 (fun x hx => hlt x (by simp [hx]))
  refine (lawPressDo A0 n0 c0 m0 k0 W g0).mono fun e W' ⟨he, hg⟩ => ?_
  subst he
  exact ⟨_, rfl, post_true rfl (by kernel_rfl) rfl (by kernel_rfl) hW' hA0 hg⟩
set_option maxRecDepth 100000 in
theorem lifted (os : Os) (started : os.Started) (H : Type) (enc : TypeId × Value → H) :
    ReturnsInHanded {} Try.checked os 6 .any (Rows.fnPressDoSpec.pre6 enc Try.prog Try.f6 Rows.fnPressDoRow.domain false) (Rows.fnPressDoSpec.post enc Try.prog Try.f6 false true false false) := by
  refine returnsInHanded_of_change (C := Try.checked) own_knob started (by kernel_rfl) Try.func6
    (ChangeSpec.witness6 (enc := enc) (C := Try.checked) false ⟨#[], #[.slice none 0 0], []⟩ 8 (by kernel_rfl) (by kernel_rfl) (by kernel_rfl) (by kernel_rfl)) ?_
  intro W base args ds gs before hval hW _ _
  exact contract H enc W base args ds gs before hval hW
end rowPressDo
theorem PressDo_holds : Rows.FnPressDoSaid :=
  OpenClaim.holds_of_wide 6 Try.f6 rfl rfl rfl rfl rfl rfl rfl ⟨rfl, rfl, rfl, rfl, rfl⟩ rfl rfl rfl rfl rfl (by kernel_rfl) Try.func6 (by kernel_rfl)
    (of_decide_eq_true (by kernel_rfl)) (by unfold Func.isWrapper; first | (rw [if_pos (by decide +kernel)]; kernel_rfl) | (rw [if_neg (by decide +kernel)]; exact ⟨rfl, rfl⟩))
    (fun os started H enc _ => rowPressDo.lifted os started H enc)
#print axioms PressDo_holds
end Go.Proofs.Ytakgcdiofpijmaa

