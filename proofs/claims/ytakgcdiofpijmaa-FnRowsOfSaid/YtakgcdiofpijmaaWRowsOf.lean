/- FnRowsOf: rows are presses. No conditions. -/
import Derived.Test.YtakgcdiofpijmaaLw
import Derived.Test.YtakgcdiofpijmaaPress
import Derived.Test.YtakgcdiofpijmaaRows2
import Derived.Test.YtakgcdiofpijmaaMath9
import Derived.Deep.RegionHeld3
import Derived.Deep.DeepCutAuto
namespace Go.Proofs.Ytakgcdiofpijmaa
open Go.ChangeShapes Go.WideShapes Go.ChangeAt Go.RowKit
theorem RdG.of1 {w : World} {B : Nat} {A : Option Addr} {G : List Nat} (h0 : 0 < G.length) (h : RdI w B A (Sw.toI G)) : ∃ ad, A = some ad ∧ RdG w B ad G := by
  obtain ⟨ad, e, h1, _⟩ := h 0 (by rw [Sw.toI_len]; exact h0)
  refine ⟨ad, e, h1, fun k hk => ?_⟩
  obtain ⟨ad', e', _, h2⟩ := h k (by rw [Sw.toI_len]; exact hk)
  rw [e] at e'
  injection e' with e'
  subst e'
  rw [Sw.gat_toI] at h2
  exact h2
set_option maxHeartbeats 2000000 in
theorem lawRowsOf (A : Option Addr) (n c : Nat) (hm : n ≤ maxLen) (hc : n ≤ c) (w : World) (hB : RdB w w.heap.size A n) :
    Calls Try.prog 5 #[.slice A n c] w fun e w' => e = .returned (.bool true) ∧ Below w.heap.size w w' := by
  unfold maxLen at hm
  by_cases hlen : (n : Int) ≤ 1048576
  · go_enter Try.func5, Try.ntmps5
    go_wp2_with fail
    refine (drawRowsOf A n c (by omega) hc _ hB).mono ?_
    rintro e w1 ⟨A1, c1, l, rfl, h10, hr, hb⟩
    have HL := Lib.hid (Lw.start (c1 := c1) hr hb 27)
    clear hr hb
    rcases Sw.gvB_cases l with hv | ⟨G, rfl, hG⟩
    · have hI := fun W => implRowsOf l A1 c1 (by omega) W
      have hS := fun W => specRowsOf l A1 c1 (by omega) W
      rw [Sw.vRows_no hv] at hI hS
      obtain ⟨L, hL⟩ : ∃ L : List Int, L = Sw.toI [] := ⟨_, rfl⟩
      rw [← hL] at hI hS
      have hl0 : L.length = 0 := by rw [hL]; rfl
      have HE := Lib.hid hl0
      have hz1 : ((L.length : Int) == 0) = true := by rw [hl0]; rfl
      clear hL hl0
      obtain ⟨_, hcb, hzb, hrb⟩ := HL.out
      go_wp2_with fail
      refine (hI _ hrb).mono ?_
      rintro e w12 ⟨v12, rfl, hO, hb12⟩
      obtain ⟨A2, c2, rfl, hr2⟩ := hO.rd
      have HL := Lib.hid (HL.out.next hb12)
      clear hcb hzb hrb hb12 hO
      obtain ⟨_, hcb, hzb, hrb⟩ := HL.out
      go_wp2_with fail
      refine (hS _ hrb).mono ?_
      rintro e w13 ⟨v13, rfl, hO, hb13⟩
      obtain ⟨A3, c3, rfl, hr3⟩ := hO.rd
      have hr2 := RdI.at_ hr2 hb13
      have HL := Lib.hid (HL.out.next hb13)
      clear hcb hzb hrb hb13 hO
      obtain ⟨_, hcb, hzb, hrb⟩ := HL.out
      go_wp2_with fail
      refine (sameInts L A2 A3 c2 c3 (by rw [HE.out]; omega) _ hr2 hr3).mono ?_
      rintro e w14 ⟨rfl, n14, rfl⟩
      have HL := Lib.hid (HL.out.next (bdr (Below.refl _ _) n14))
      clear hcb hzb hrb hr2 hr3
      obtain ⟨_, hcb, hzb, hrb⟩ := HL.out
      go_wp2_with fail
      refine (specGraphValid_no l A1 c1 (by omega) hv _ hrb).mono ?_
      rintro e w2 ⟨rfl, hb2⟩
      have HL := Lib.hid (HL.out.next hb2)
      clear hcb hzb hrb hb2
      obtain ⟨_, hcb, hzb, hrb⟩ := HL.out
      go_wp2_with fail
      refine (alive _).mono ?_
      rintro e w3 ⟨rfl, hb3⟩
      have HL := Lib.hid (HL.out.next hb3)
      clear hcb hzb hrb hb3
      obtain ⟨_, hcb, hzb, hrb⟩ := HL.out
      go_wp2_with fail
      go_ret
      exact ⟨rfl, HL.out.1⟩
    · obtain ⟨ad, rfl, hL⟩ := HL.out.valid hG
      have HL := Lib.hid hL
      have hn9 := hG.le
      have hn1 := hG.pos
      have hI := fun W h => implRowsOf (Sw.toI G) (some ad) c1 (by rw [Sw.toI_len]; omega) W h
      have hS := fun W h => specRowsOf (Sw.toI G) (some ad) c1 (by rw [Sw.toI_len]; omega) W h
      have hGV := fun W h => specGV G hG ad c1 W h
      rw [Sw.vRows_yes hG, Sw.toI_len] at hI hS
      obtain ⟨R, hR⟩ : ∃ R, R = Sw.tab G.length (Sw.row G) := ⟨_, rfl⟩
      rw [← hR] at hI hS
      have hRl : R.length = G.length := by rw [hR]; exact Sw.tab_len _ _
      have HRl := Lib.hid hRl
      have HRk : Hid (∀ k, k < G.length → Sw.nb R k = Sw.row G k) := fun k hk => by rw [hR]; exact Sw.nb_tab _ hk
      clear hR hL hRl
      obtain ⟨_, hcb, hzb, hrb⟩ := HL.out
      go_wp2_with fail
      refine (hI _ hrb.toI).mono ?_
      rintro e w12 ⟨v12, rfl, hO, hb12⟩
      obtain ⟨A2, c2, hv2, hr2⟩ := hO.rd
      obtain ⟨ad2, rfl, hR2⟩ := RdG.of1 (by rw [HRl.out]; exact hn1) hr2
      rw [Sw.toI_len, HRl.out] at hv2
      subst hv2
      have HL := Lib.hid (HL.out.next hb12)
      clear hcb hzb hrb hb12 hO hr2
      obtain ⟨_, hcb, hzb, hrb⟩ := HL.out
      go_wp2_with fail
      refine (hS _ hrb.toI).mono ?_
      rintro e w13 ⟨v13, rfl, hO, hb13⟩
      obtain ⟨A3, c3, hv3, hr3⟩ := hO.rd
      rw [Sw.toI_len, HRl.out] at hv3
      subst hv3
      have HL := Lib.hid (HL.out.next hb13)
      have hR2 := hR2.at_ hb13
      have hSm := sameInts (Sw.toI R) (some ad2) A3 c2 c3 (by rw [Sw.toI_len, HRl.out]; omega) w13 hR2.toI hr3
      rw [Sw.toI_len, HRl.out] at hSm
      have HR2 := Lib.hid hR2
      clear hcb hzb hrb hb13 hO hr3 hR2
      obtain ⟨_, hcb, hzb, hrb⟩ := HL.out
      go_wp2_with fail
      refine hSm.mono ?_
      rintro e w14 ⟨rfl, n14, rfl⟩
      have HL := Lib.hid (HL.out.next (bdr (Below.refl _ _) n14))
      have HR2 := Lib.hid (HR2.out.at_ (bdr (Below.refl _ _) n14))
      clear hcb hzb hrb hSm
      obtain ⟨_, hcb, hzb, hrb⟩ := HL.out
      go_wp2_with fail
      refine (hGV _ hrb).mono ?_
      rintro e w15 ⟨rfl, hb15⟩
      have HL := Lib.hid (HL.out.next hb15)
      have HR2 := Lib.hid (HR2.out.at_ hb15)
      clear hcb hzb hrb hb15
      obtain ⟨_, hcb, hzb, hrb⟩ := HL.out
      go_wp2_with fail
      go_loopw [5] (fun i wr => ∃ k : Nat, k ≤ G.length ∧ i = .int .i64 k ∧ Lg w wr w1.heap.size ad c1 G ∧ RdG wr wr.heap.size ad2 R) (fun i _ => (G.length - intOf i).toNat)
      case atStart => exact ⟨0, Nat.zero_le _, rfl, HL.out, HR2.out⟩
      case round =>
        obtain ⟨k, hk, rfl, hL, hR2⟩ := hrel
        have HL := Lib.hid hL
        have HR2 := Lib.hid hR2
        clear hL hR2 hcb hzb hrb
        obtain ⟨_, hcb, hzb, hrb⟩ := HL.out
        by_cases hlt : k < G.length
        · have hd : decide ((k : Int) < (G.length : Int)) = true := by rw [decide_eq_true_eq]; omega
          have hk9 : 2 ^ k < 2 ^ G.length := Nat.pow_lt_pow_right (by decide) hlt
          have hP := fun W h => implPressSet (Sw.toI G) (some ad) c1 ((2 ^ k : Nat) : Int) (by rw [Sw.toI_len]; omega) W h
          rw [Sw.vPress_yes hG hk9, Sw.prs_two hlt, Sw.toI_len] at hP
          have hk5 : 2 ^ k < 512 := Nat.lt_of_lt_of_le hk9 (Sw.pow_le9 hn9)
          have hpw := pow_nat k
          have hck2 := HR2.out.cell k (by rw [HRl.out]; exact hlt)
          rw [HRk.out k hlt] at hck2
          have hbi : (Sw.row G k : Int) / 2 ^ k % 2 = 1 := by rw [shr_nat]; have := Sw.bit_one.2 (Sw.row_self hG k); unfold Sw.bit at this; omega
          have hblk := HR2.out.blk
          have h0k := shr_nonneg (Sw.row G k) k
          have hX9 : Sw.row G k < 512 := Nat.lt_of_lt_of_le (Sw.row_lt hG hlt) (Sw.pow_le9 hn9)
          obtain ⟨K, hK⟩ : ∃ K, K = 2 ^ k := ⟨_, rfl⟩
          have hw1 : IntKind.i64.wrap ((2 : Int) ^ k) = (K : Int) := by rw [hpw, ← hK]; exact IntWalk.i64_in _ (by omega)
          rw [← hK] at hP
          obtain ⟨X, hX⟩ : ∃ X, X = Sw.row G k := ⟨_, rfl⟩
          rw [← hX] at hP hck2 hbi hX9 h0k
          have HC : Hid (∀ W, Below wr.heap.size wr W → W.cell? (ad2.add k) = some (.int .i64 (X : Nat))) := fun W h => (h.cell (by rw [add_block]; exact hblk)).trans hck2
          have hbt : (((X : Int) / 2 ^ k).tmod 2 != 1) = false := by rw [Int.tmod_eq_emod_of_nonneg h0k, hbi]; rfl
          clear hK hX hpw hk9 hk5 hblk
          go_wp2_with fail
          go_region_held3 (fun w' => w'.cell? ⟨w1.heap.size, 0, none⟩ = some (.slice (some ad) G.length c1) ∧ w'.cell? (ad2.add k) = some (.int .i64 (X : Nat))) (first | exact ⟨hcb, hck2⟩ | exact hS_K1) (first | (go_at_call 27; refine (hP _ (by exact hrb.toI)).mono ?_; rintro e Y1 ⟨rfl, z1⟩; have K1 := Lib.hid (HL.out.next (undrew (by exact z1))); have hR_K1 := Lib.hid (HR2.out.at_ (undrew (by exact z1))); have hS_K1 := And.intro K1.out.2.1 (HC.out _ (undrew (by exact z1)))))
          go_wp2_with fail
          go_roundw
          case rel => exact ⟨k + 1, by omega, by go_num, K1.out, hR_K1.out⟩
          case measure => simp [intOf]; omega
        · have hkn : k = G.length := by omega
          subst hkn
          have hd : decide ((G.length : Int) < (G.length : Int)) = false := by rw [decide_eq_false_iff_not]; omega
          go_wp2_with fail
          go_ret
          exact ⟨rfl, HL.out.1⟩
  · go_enter Try.func5, Try.ntmps5
    go_wp2_with fail
    go_ret
    exact ⟨rfl, Below.refl _ _⟩
namespace rowRowsOf
theorem contract (H : Type) (enc : TypeId × Value → H) (W : World) (base : Nat) (args : Array Value) (ds gs : List (DataW H)) (before : List MemPlace)
    (hval : ∀ (j : Nat) t v, Try.f5.params[j]? = some t → args[j]? = some v → Value.okWide Try.prog W .any base t v)
    (hW : DataW.Whole enc Try.prog Try.f5.params.toList Rows.fnRowsOfSpec.vars false W args.toList ds gs before) :
    Calls Try.prog 5 args W fun e W' => ∃ v, e = .returned v ∧ Rows.fnRowsOfSpec.post enc Try.prog Try.f5 false true false false W args v W' := by
  have hW' := hW
  obtain ⟨p, q, hA0, hV, rfl, _, _⟩ := hW
  obtain ⟨rfl, rfl⟩ := trodVars_none hV
  simp only [List.append_nil] at hW'
  have hlt : ∀ x ∈ p, x.block < W.heap.size := fun x hx => hW'.lt x hx
  have hA : DataW.TrodAll enc Try.prog W 0 (fun _ => true) true Try.f5.params.toList args.toList ds p := hA0
  rw [Try.params5] at hA hval
  obtain ⟨v0, vs0, d0, ds0, p0, q0, hargs, rfl, rfl, h0, r0⟩ := trodAll_cons hA
  obtain ⟨rfl, rfl, rfl⟩ := trodAll_nil r0
  obtain rfl : args = #[v0] := by cases args; simp_all
  obtain ⟨A0, n0, c0, rfl, m0, k0, g0⟩ := open_bytes (hval 0 _ v0 rfl rfl) h0 (fun x hx => hlt x (by simp [hx]))
  refine (lawRowsOf A0 n0 c0 m0 k0 W g0).mono fun e W' ⟨he, hg⟩ => ?_
  subst he
  exact ⟨_, rfl, post_true rfl (by kernel_rfl) rfl (by kernel_rfl) hW' hA0 hg⟩
set_option maxRecDepth 100000 in
theorem lifted (os : Os) (started : os.Started) (H : Type) (enc : TypeId × Value → H) :
    ReturnsInHanded {} Try.checked os 5 .any (Rows.fnRowsOfSpec.pre6 enc Try.prog Try.f5 Rows.fnRowsOfRow.domain false) (Rows.fnRowsOfSpec.post enc Try.prog Try.f5 false true false false) := by
  refine returnsInHanded_of_change (C := Try.checked) own_knob started (by kernel_rfl) Try.func5
    (ChangeSpec.witness6 (enc := enc) (C := Try.checked) false ⟨#[], #[.slice none 0 0], []⟩ 8 (by kernel_rfl) (by kernel_rfl) (by kernel_rfl) (by kernel_rfl)) ?_
  intro W base args ds gs before hval hW _ _
  exact contract H enc W base args ds gs before hval hW
end rowRowsOf
theorem RowsOf_holds : Rows.FnRowsOfSaid :=
  OpenClaim.holds_of_wide 5 Try.f5 rfl rfl rfl rfl rfl rfl rfl ⟨rfl, rfl, rfl, rfl, rfl⟩ rfl rfl rfl rfl rfl (by kernel_rfl) Try.func5 (by kernel_rfl)
    (of_decide_eq_true (by kernel_rfl)) (by unfold Func.isWrapper; first | (rw [if_pos (by decide +kernel)]; kernel_rfl) | (rw [if_neg (by decide +kernel)]; exact ⟨rfl, rfl⟩))
    (fun os started H enc _ => rowRowsOf.lifted os started H enc)
#print axioms RowsOf_holds
end Go.Proofs.Ytakgcdiofpijmaa

