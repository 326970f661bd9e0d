/- FnQuiet: quiet sets add up to quiet sets. No conditions. -/
import Derived.Test.YtakgcdiofpijmaaLw
import Derived.Test.YtakgcdiofpijmaaPress
import Derived.Test.YtakgcdiofpijmaaDpQ
import Derived.Test.YtakgcdiofpijmaaMath9
import Derived.Deep.RegionHeld3
import Derived.Deep.DeepCutAuto
namespace Go.Proofs.Ytakgcdiofpijmaa
open Go.ChangeShapes Go.WideShapes Go.ChangeAt Go.RowKit
set_option maxRecDepth 100000 in
set_option maxHeartbeats 4000000 in
theorem lawQuiet (A : Option Addr) (n c : Nat) (hm : n ≤ maxLen) (hc : n ≤ c) (w : World) (hB : RdB w w.heap.size A n) :
    Calls Try.prog 8 #[.slice A n c] w fun e w' => e = .returned (.bool true) ∧ Below w.heap.size w w' := by
  unfold maxLen at hm
  by_cases hlen : (n : Int) ≤ 1048576
  · go_enter Try.func8, Try.ntmps8
    go_wp2_with fail
    refine (drawQuiet A n c (by omega) hc _ hB).mono ?_
    rintro e w1 ⟨A1, c1, l, s, rfl, h10, hr, hb⟩
    have HL := Lib.hid (Lw.start (c1 := c1) hr hb 27)
    clear hr hb
    rcases Sw.svB_cases l s with hv | ⟨G, S, rfl, hG, rfl, hS0⟩
    · have hI := fun W h => implQuiet l A1 c1 s (by omega) W h
      have hS := fun W h => specQuiet l A1 c1 s (by omega) W h
      have hV := Sw.vQuiet_no hv
      rw [hV] at hI hS
      clear hV
      obtain ⟨_, hcb, hzb, hrb⟩ := HL.out
      go_wp2_with fail
      refine (hI _ hrb).mono ?_
      rintro e w15 ⟨rfl, hb15⟩
      have HL := Lib.hid (HL.out.next hb15)
      clear hcb hzb hrb hb15
      obtain ⟨_, hcb, hzb, hrb⟩ := HL.out
      go_wp2_with fail
      refine (hS _ hrb).mono ?_
      rintro e w16 ⟨rfl, hb16⟩
      have HL := Lib.hid (HL.out.next hb16)
      clear hcb hzb hrb hb16
      obtain ⟨_, hcb, hzb, hrb⟩ := HL.out
      go_wp2_with fail
      refine (specSV_no l A1 c1 s (by omega) hv _ hrb).mono ?_
      rintro e w17 ⟨rfl, hb17⟩
      have HL := Lib.hid (HL.out.next hb17)
      clear hcb hzb hrb hb17
      obtain ⟨_, hcb, hzb, hrb⟩ := HL.out
      go_wp2_with fail
      refine (alive _).mono ?_
      rintro e w18 ⟨rfl, hb18⟩
      have HL := Lib.hid (HL.out.next hb18)
      clear hcb hzb hrb hb18
      obtain ⟨_, hcb, hzb, hrb⟩ := HL.out
      go_wp2_with fail
      go_ret
      exact ⟨rfl, HL.out.1⟩
    · obtain ⟨ad, rfl, hL⟩ := HL.out.valid hG
      have HL := Lib.hid hL
      have hn9 := hG.le
      have hn1 := hG.pos
      clear hL
      rw [Sw.toI_len] at HL h10 ⊢
      have hI := fun W h => implQuiet (Sw.toI G) (some ad) c1 (S : Nat) (by rw [Sw.toI_len]; omega) W h
      have hS := fun W h => specQuiet (Sw.toI G) (some ad) c1 (S : Nat) (by rw [Sw.toI_len]; omega) W h
      have hSV := fun W h => specSV G hG S hS0 ad c1 W h
      rw [Sw.vQuiet_yes hG hS0, ← Sw.quiet_even hG hS0, Sw.toI_len] at hI hS
      have hS9 := lt40 hn9 hS0
      obtain ⟨Y, hY⟩ : ∃ Y, Y = Sw.evB G S G.length := ⟨_, rfl⟩
      rw [← hY] at hI hS
      have HY := Lib.hid hY
      clear hY
      obtain ⟨_, hcb, hzb, hrb⟩ := HL.out
      go_wp2_with fail
      refine (hI _ hrb.toI).mono ?_
      rintro e w19 ⟨rfl, hb19⟩
      have HL := Lib.hid (HL.out.next hb19)
      clear hcb hzb hrb hb19
      obtain ⟨_, hcb, hzb, hrb⟩ := HL.out
      go_wp2_with fail
      refine (hS _ hrb.toI).mono ?_
      rintro e w20 ⟨rfl, hb20⟩
      have HL := Lib.hid (HL.out.next hb20)
      clear hcb hzb hrb hb20
      obtain ⟨_, hcb, hzb, hrb⟩ := HL.out
      go_wp2_with fail
      refine (hSV _ hrb).mono ?_
      rintro e w21 ⟨rfl, hb21⟩
      have HL := Lib.hid (HL.out.next hb21)
      clear hcb hzb hrb hb21
      obtain ⟨_, hcb, hzb, hrb⟩ := HL.out
      clear hI hS hSV
      go_wp2_with fail
      go_loopw [6, 7] (fun q i wr => ∃ (k : Nat) (E : Bool), k ≤ G.length ∧ i = .int .i64 k ∧ q = .bool E ∧ E = Sw.evB G S k ∧ Lg w wr w1.heap.size ad c1 G) (fun _ i _ => (G.length - intOf i).toNat)
      case atStart => exact ⟨0, true, Nat.zero_le _, rfl, rfl, rfl, HL.out⟩
      case round =>
        obtain ⟨k, E, hk, rfl, rfl, hE, hL⟩ := hrel
        have HL := Lib.hid hL
        have HE := Lib.hid hE
        clear hL hE hcb hzb hrb
        obtain ⟨_, hcb, hzb, hrb⟩ := HL.out
        by_cases hlt : k < G.length
        · have hd : decide ((k : Int) < (G.length : Int)) = true := by rw [decide_eq_true_eq]; omega
          have HA := Lib.hid (Sw.evB_succ G S k)
          cases E
          · have HA2 : Hid (Sw.evB G S (k + 1) = false) := by show _ = _; rw [HA.out, ← HE.out]; rfl
            go_wp2_with fail
            refine wp_region_held_drew (S := fun _ => True) (by kernel_rfl) True.intro (fun hHeld => ?_)
            refine wpAnyH_take (i := 0) (v := (.bool false)) rfl (by kernel_rfl) (by kernel_rfl) (by kernel_rfl) (fun _ _ _ h => h) (Or.inl ⟨by kernel_rfl, fun w hSw => by ((try dsimp only at hSw); go_simp)⟩) (by assumption) ?_
            refine wpAnyH_take (i := 1) (v := (.bool false)) rfl (by kernel_rfl) (by kernel_rfl) (by kernel_rfl) (fun _ _ _ h => h) (Or.inl ⟨by kernel_rfl, fun w hSw => by ((try dsimp only at hSw); go_simp)⟩) (by assumption) ?_
            refine wpAnyH_take (i := 2) (v := undef) rfl (by kernel_rfl) (by kernel_rfl) (by kernel_rfl) (fun _ _ _ h => h) (Or.inr ⟨by kernel_rfl, rfl⟩) (by assumption) ?_
            refine wpAnyH_take (i := 3) (v := undef) rfl (by kernel_rfl) (by kernel_rfl) (by kernel_rfl) (fun _ _ _ h => h) (Or.inr ⟨by kernel_rfl, rfl⟩) (by assumption) ?_
            refine wpAnyH_take (i := 4) (v := undef) rfl (by kernel_rfl) (by kernel_rfl) (by kernel_rfl) (fun _ _ _ h => h) (Or.inr ⟨by kernel_rfl, rfl⟩) (by assumption) ?_
            refine wpAnyH_take (i := 5) (v := undef) rfl (by kernel_rfl) (by kernel_rfl) (by kernel_rfl) (fun _ _ _ h => h) (Or.inr ⟨by kernel_rfl, rfl⟩) (by assumption) ?_
            refine wpAnyH_take (i := 6) (v := undef) rfl (by kernel_rfl) (by kernel_rfl) (by kernel_rfl) (fun _ _ _ h => h) (Or.inr ⟨by kernel_rfl, rfl⟩) (by assumption) ?_
            refine wpAnyH_take (i := 7) (v := undef) rfl (by kernel_rfl) (by kernel_rfl) (by kernel_rfl) (fun _ _ _ h => h) (Or.inr ⟨by kernel_rfl, rfl⟩) (by assumption) ?_
            refine wpAnyH_take (i := 8) (v := undef) rfl (by kernel_rfl) (by kernel_rfl) (by kernel_rfl) (fun _ _ _ h => h) (Or.inr ⟨by kernel_rfl, rfl⟩) (by assumption) ?_
            refine wpAnyH_take (i := 9) (v := undef) rfl (by kernel_rfl) (by kernel_rfl) (by kernel_rfl) (fun _ _ _ h => h) (Or.inr ⟨by kernel_rfl, rfl⟩) (by assumption) ?_
            refine wpAnyH_take (i := 10) (v := undef) rfl (by kernel_rfl) (by kernel_rfl) (by kernel_rfl) (fun _ _ _ h => h) (Or.inr ⟨by kernel_rfl, rfl⟩) (by assumption) ?_
            refine wpAnyH_take (i := 11) (v := undef) rfl (by kernel_rfl) (by kernel_rfl) (by kernel_rfl) (fun _ _ _ h => h) (Or.inr ⟨by kernel_rfl, rfl⟩) (by assumption) ?_
            refine wpAnyH_take (i := 12) (v := undef) rfl (by kernel_rfl) (by kernel_rfl) (by kernel_rfl) (fun _ _ _ h => h) (Or.inr ⟨by kernel_rfl, rfl⟩) (by assumption) ?_
            refine wpAnyH_take (i := 13) (v := undef) rfl (by kernel_rfl) (by kernel_rfl) (by kernel_rfl) (fun _ _ _ h => h) (Or.inr ⟨by kernel_rfl, rfl⟩) (by assumption) ?_
            refine wpAnyH_take (i := 14) (v := undef) rfl (by kernel_rfl) (by kernel_rfl) (by kernel_rfl) (fun _ _ _ h => h) (Or.inr ⟨by kernel_rfl, rfl⟩) (by assumption) ?_
            refine wpAnyH_take (i := 15) (v := undef) rfl (by kernel_rfl) (by kernel_rfl) (by kernel_rfl) (fun _ _ _ h => h) (Or.inr ⟨by kernel_rfl, rfl⟩) (by assumption) ?_
            refine wpAnyH_take (i := 16) (v := undef) rfl (by kernel_rfl) (by kernel_rfl) (by kernel_rfl) (fun _ _ _ h => h) (Or.inr ⟨by kernel_rfl, rfl⟩) (by assumption) ?_
            refine wpAnyH_take (i := 17) (v := (.bool false)) rfl (by kernel_rfl) (by kernel_rfl) (by kernel_rfl) (fun _ _ _ h => h) (Or.inl ⟨by kernel_rfl, fun w hSw => by ((try dsimp only at hSw); go_simp)⟩) (by assumption) ?_
            refine wpAnyH_ready (rs := [18]) (by kernel_rfl) (by simp) ?_
            refine AllReadyH.cons rfl (fun K0 hK0 => ?_) AllReadyH.nil
            go_simp
            refine hK0.out _ _ True.intro (fun hHeld2 => ?_)
            clear hK0 K0
            refine wpAnyH_done (by kernel_rfl) ?_ _
            go_wp2_with fail
            go_roundw
            case rel => exact ⟨k + 1, false, by omega, by go_num, rfl, HA2.out.symm, HL.out.next (bdr (Below.refl _ _) 1)⟩
            case measure => first | (simp [intOf]; done) | (simp [intOf]; omega)
          · have h0k := shr_nonneg S k
            have hck := hrb.cell k hlt
            have hx9 := lt40 hn9 (hG.lt k)
            have hbo := fun W => both (Sw.nb G k) S hx9 hS9 W
            have hand : Sw.nb G k &&& S < 2 ^ G.length := Sw.and_lt hS0
            have hbi := fun W => bits (Sw.nb G k &&& S) (lt40 hn9 hand) W
            have hQ9 : Sw.cnt (Sw.nb G k &&& S) ≤ G.length := Sw.cnt_le hand (by omega)
            obtain ⟨Z, hZ⟩ : ∃ Z, Z = Sw.nb G k &&& S := ⟨_, rfl⟩
            have hZ9 : Z < 1099511627776 := by rw [hZ]; exact lt40 hn9 hand
            rw [← hZ] at hbo hbi hQ9 HA
            obtain ⟨Q, hQ⟩ : ∃ Q, Q = Sw.cnt Z := ⟨_, rfl⟩
            rw [← hQ] at hbi hQ9 HA
            obtain ⟨X, hX⟩ : ∃ X, X = Sw.nb G k := ⟨_, rfl⟩
            rw [← hX] at hbo hck hx9
            have hB2 := Sw.bit_lt S k
            have hbm : ((S : Int) / 2 ^ k).tmod 2 = ((Sw.bit S k : Nat) : Int) := by rw [Int.tmod_eq_emod_of_nonneg h0k, shr_nat]; unfold Sw.bit; omega
            obtain ⟨B, hB⟩ : ∃ B, B = Sw.bit S k := ⟨_, rfl⟩
            rw [← hB] at hbm hB2 HA
            have hB01 : B = 0 ∨ B = 1 := by omega
            have HA2 : Hid (Sw.evB G S (k + 1) = decide ((Q + B) % 2 = 0)) := by show _ = _; rw [HA.out, ← HE.out]; rfl
            have hev : ((((Q + B : Nat) : Int)).tmod 2 == 0) = decide ((Q + B) % 2 = 0) := by
              rw [Int.tmod_eq_emod_of_nonneg (by omega), show ((Q + B : Nat) : Int) % 2 = (((Q + B) % 2 : Nat) : Int) by omega, beq_nat_zero]
            obtain ⟨F, hF⟩ : ∃ F, F = decide ((Q + B) % 2 = 0) := ⟨_, rfl⟩
            rw [← hF] at HA2 hev
            have hadd : ((Q + B : Nat) : Int) = (Q : Int) + (B : Int) := by omega
            rw [hadd] at hev
            have hws : IntKind.i64.wrap ((Q : Int) + (B : Int)) = (Q : Int) + (B : Int) := IntWalk.i64_in _ (by omega)
            have hwb : IntKind.i64.wrap (B : Int) = (B : Int) := IntWalk.i64_in _ (by omega)
            have hk0 : (0 : Int) ≤ (k : Int) := by omega
            have hk1 : (k : Int) < (G.length : Int) := by omega
            have hk64 : (k : Int) < 64 := by omega
            clear hZ hQ hX hB hF hadd hand HA hB01
            go_wp2_with fail
            go_region_held3 (fun w' => w'.cell? ⟨w1.heap.size, 0, none⟩ = some (.slice (some ad) G.length c1) ∧ w'.cell? (ad.add k) = some (.int .i64 (X : Nat))) (first | exact ⟨hcb, hck⟩) (first | (go_at_call 39; refine (hbi _).mono ?_; rintro e w' ⟨rfl, rfl⟩) | (go_at_call 40; refine (hbo _).mono ?_; rintro e w' ⟨rfl, rfl⟩))
            go_wp2_with fail
            go_roundw
            case rel => exact ⟨k + 1, F, by omega, by go_num, rfl, HA2.out.symm, HL.out.next (bdr (Below.refl _ _) 1)⟩
            case measure => first | (simp [intOf]; done) | (simp [intOf]; omega)
        · have hkn : k = G.length := by omega
          subst hkn
          have hd : decide ((G.length : Int) < (G.length : Int)) = false := by rw [decide_eq_false_iff_not]; omega
          have hEY : E = Y := by rw [HE.out, HY.out]
          subst hEY
          go_wp2_with fail
          go_ret
          exact ⟨rfl, HL.out.1⟩
  · go_enter Try.func8, Try.ntmps8
    go_wp2_with fail
    go_ret
    exact ⟨rfl, Below.refl _ _⟩
namespace rowQuiet
theorem contract (H : Type) (enc : TypeId × Value → H) (W : World) (base : Nat) (args : Array Value) (ds gs : List (DataW H)) (before : List MemPlace)
    (hval : ∀ (j : Nat) t v, Try.f8.params[j]? = some t → args[j]? = some v → Value.okWide Try.prog W .any base t v)
    (hW : DataW.Whole enc Try.prog Try.f8.params.toList Rows.fnQuietSpec.vars false W args.toList ds gs before) :
    Calls Try.prog 8 args W fun e W' => ∃ v, e = .returned v ∧ Rows.fnQuietSpec.post enc Try.prog Try.f8 false true false false W args v W' := by
  have hW' := hW
  obtain ⟨p, q, hA0, hV, rfl, _, _⟩ := hW
  obtain ⟨rfl, rfl⟩ := trodVars_none hV
  simp only [List.append_nil] at hW'
  have hlt : ∀ x ∈ p, x.block < W.heap.size := fun x hx => hW'.lt x hx
  have hA : DataW.TrodAll enc Try.prog W 0 (fun _ => true) true Try.f8.params.toList args.toList ds p := hA0
  rw [Try.params8] at hA hval
  obtain ⟨v0, vs0, d0, ds0, p0, q0, hargs, rfl, rfl, h0, r0⟩ := trodAll_cons hA
  obtain ⟨rfl, rfl, rfl⟩ := trodAll_nil r0
  obtain rfl : args = #[v0] := by cases args; simp_all
  obtain ⟨A0, n0, c0, rfl, m0, k0, g0⟩ := open_bytes (hval 0 _ v0 rfl rfl) h0 (fun x hx => hlt x (by simp [hx]))
  refine (lawQuiet A0 n0 c0 m0 k0 W g0).mono fun e W' ⟨he, hg⟩ => ?_
  subst he
  exact ⟨_, rfl, post_true rfl (by kernel_rfl) rfl (by kernel_rfl) hW' hA0 hg⟩
set_option maxRecDepth 100000 in
theorem lifted (os : Os) (started : os.Started) (H : Type) (enc : TypeId × Value → H) :
    ReturnsInHanded {} Try.checked os 8 .any (Rows.fnQuietSpec.pre6 enc Try.prog Try.f8 Rows.fnQuietRow.domain false) (Rows.fnQuietSpec.post enc Try.prog Try.f8 false true false false) := by
  refine returnsInHanded_of_change (C := Try.checked) own_knob started (by kernel_rfl) Try.func8
    (ChangeSpec.witness6 (enc := enc) (C := Try.checked) false ⟨#[], #[.slice none 0 0], []⟩ 8 (by kernel_rfl) (by kernel_rfl) (by kernel_rfl) (by kernel_rfl)) ?_
  intro W base args ds gs before hval hW _ _
  exact contract H enc W base args ds gs before hval hW
end rowQuiet
theorem Quiet_holds : Rows.FnQuietSaid :=
  OpenClaim.holds_of_wide 8 Try.f8 rfl rfl rfl rfl rfl rfl rfl ⟨rfl, rfl, rfl, rfl, rfl⟩ rfl rfl rfl rfl rfl (by kernel_rfl) Try.func8 (by kernel_rfl)
    (of_decide_eq_true (by kernel_rfl)) (by unfold Func.isWrapper; first | (rw [if_pos (by decide +kernel)]; kernel_rfl) | (rw [if_neg (by decide +kernel)]; exact ⟨rfl, rfl⟩))
    (fun os started H enc _ => rowQuiet.lifted os started H enc)
#print axioms Quiet_holds
end Go.Proofs.Ytakgcdiofpijmaa

