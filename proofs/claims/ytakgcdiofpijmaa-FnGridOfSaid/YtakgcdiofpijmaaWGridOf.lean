/- FnGridOf: grids have their lines. No conditions. -/
import Derived.Test.YtakgcdiofpijmaaLw
import Derived.Test.YtakgcdiofpijmaaLc
import Derived.Deep.RegionHeld3
import Derived.Deep.DeepCutAuto
namespace Go.Proofs.Ytakgcdiofpijmaa
open Go.ChangeShapes Go.WideShapes Go.ChangeAt Go.RowKit
set_option maxHeartbeats 2000000 in
theorem lawGridOf (A : Option Addr) (n c : Nat) (hm : n ≤ maxLen) (hc : n ≤ c) (w : World) (hB : RdB w w.heap.size A n) :
    Calls Try.prog 3 #[.slice A n c] w fun e w' => e = .returned (.bool true) ∧ Below w.heap.size w w' := by
  unfold maxLen at hm
  by_cases hlen : (n : Int) ≤ 1048576
  · go_enter Try.func3, Try.ntmps3
    go_wp2_with fail
    refine (drawGridOf A n c (by omega) hc _ hB).mono ?_
    rintro e w1 ⟨p, q, rfl, hp0, hp1, hq0, hq1, hb⟩
    have hlen := Sw.vGrid_len p q
    have hI := implGridOf p q
    have hS := specGridOf p q
    by_cases hp : Sw.gridOk p q
    · obtain ⟨a, b, rfl, rfl, ha, hb1, hab⟩ := Sw.gridOk_nat hp
      have hV : Sw.vGrid (a : Int) (b : Int) = Sw.toI (Sw.gridL a b) := Sw.vGrid_yes ha hb1 hab
      obtain ⟨hG, hdg, hpt, htc⟩ := Sw.grid_law ha hb1 hab
      have hGl : (Sw.gridL a b).length = a * b := by unfold Sw.gridL; exact Sw.tab_len _ _
      obtain ⟨G, hGe⟩ : ∃ G, G = Sw.gridL a b := ⟨_, rfl⟩
      rw [← hGe] at hG hdg hpt htc hV hGl
      obtain ⟨l, hl⟩ : ∃ l, l = Sw.vGrid (a : Int) (b : Int) := ⟨_, rfl⟩
      rw [← hl] at hlen hI hS hV
      have HV := Lib.hid hV
      obtain ⟨N, hN⟩ : ∃ N, N = a * b := ⟨_, rfl⟩
      have hN0 : 1 ≤ N := by rw [hN]; exact Nat.mul_pos ha hb1
      have ha9 : a ≤ 9 := Nat.le_trans (Nat.le_mul_of_pos_right a hb1) hab
      have hb9 : b ≤ 9 := Nat.le_trans (Nat.le_mul_of_pos_left b ha) hab
      have hdg2 : ((Sw.degs G G.length / 2 : Nat) : Int) = 2 * (a : Int) * (b : Int) - (a : Int) - (b : Int) := by
        have h : ((Sw.degs G G.length / 2 + a + b : Nat) : Int) = ((2 * a * b : Nat) : Int) := by rw [hdg]
        simp only [Int.natCast_add, Int.natCast_mul] at h
        have h2 : ((2 : Nat) : Int) = 2 := rfl
        rw [h2] at h
        omega
      have hm : 2 * (a : Int) * (b : Int) = 2 * (N : Int) := by rw [hN, Int.natCast_mul, Int.mul_assoc]
      rw [hm] at hdg2
      have hw1 : IntKind.i64.wrap (2 * (a : Int)) = 2 * (a : Int) := IntWalk.i64_in _ (by omega)
      have hw2 : IntKind.i64.wrap (2 * (a : Int) * (b : Int)) = 2 * (N : Int) := by rw [hm]; exact IntWalk.i64_in _ (by omega)
      have hw3 : IntKind.i64.wrap (2 * (N : Int) - (a : Int)) = 2 * (N : Int) - (a : Int) := IntWalk.i64_in _ (by omega)
      have hw4 : IntKind.i64.wrap (2 * (N : Int) - (a : Int) - (b : Int)) = 2 * (N : Int) - (a : Int) - (b : Int) := IntWalk.i64_in _ (by omega)
      rw [← hN] at hab hGl
      have hz1 : ((l.length : Int) == 0) = false := by rw [hV, Sw.toI_len, hGl, beq_eq_false_iff_ne]; omega
      clear hp hl hV hGe hdg hm hN
      go_wp2_with fail
      refine (hI _).mono ?_
      rintro e w2 ⟨v1, rfl, hO, hb2⟩
      obtain ⟨A1, c1, rfl, hr1⟩ := hO.rd
      have HL := Lib.hid (Lw.start (c1 := c1) hr1 (hb.trans (hb2.mono hb.size)) 27)
      clear hO hr1 hb2 hb
      obtain ⟨_, hcb, hzb, hrb⟩ := HL.out
      go_wp2_with fail
      go_region_held3 (fun w' => w'.cell? ⟨w2.heap.size, 0, none⟩ = some (.slice A1 l.length c1)) (first | exact hcb | exact hS_K1 | exact hS_K2) (first | (have hq := hS_K1; clear hq; go_at_call 11; refine (sameGraph l A1 A2 c1 c2 (by omega) _ (by exact hr_K1) (by exact hr3)).mono ?_; rintro e Y2 ⟨rfl, z2⟩; have K2 := Lib.hid (K1.out.next (by exact z2)); have hS_K2 := K2.out.2.1) | (go_at_call 12; refine (hS _).mono ?_; rintro e Y1 ⟨v2, rfl, hO2, z1⟩; obtain ⟨A2, c2, rfl, hr3⟩ := hO2.rd; have K1 := Lib.hid (HL.out.next (undrew (by exact z1))); have hS_K1 := K1.out.2.1; have hr_K1 := K1.out.2.2.2))
      have HL := K2
      clear hcb hzb hrb K1 K2 hS_K1 hS_K2 hr_K1 hO2 hr3 z1 z2
      rename Y2.cell? _ = some _ => hq
      clear hq
      obtain rfl : l = Sw.toI G := HV.out
      obtain ⟨ad, rfl, hL⟩ := HL.out.valid hG
      have HL := Lib.hid hL
      have hn9 := hG.le
      have hI1 := fun W h => implGV G hG ad c1 W h
      have hI2 := fun W h => implLinesG G hG ad c1 W h
      have hI3 := fun W h => implWholeG G hG ad c1 W h
      have hI5 := fun W h => implTcSome G hG ad c1 W h htc
      rw [hdg2] at hI2
      rw [decide_eq_true hpt] at hI3
      simp only [Sw.toI_len] at HL ⊢
      rw [hGl] at hI1 hI2 hI3 hI5
      have HGl := Lib.hid hGl
      simp only [hGl] at HL ⊢
      clear hL hdg2 hpt hI hS hlen htc hGl
      obtain ⟨hL1, hcb, hzb, hrb⟩ := HL.out
      rw [HGl.out] at hcb
      go_wp2_with fail
      refine (hI5 _ hrb).mono ?_
      rintro e w20 ⟨⟨x20, rfl⟩, hb20⟩
      have HL := Lib.hid (HL.out.next hb20)
      clear hcb hzb hrb hb20 hL1
      obtain ⟨hL1, hcb, hzb, hrb⟩ := HL.out
      rw [HGl.out] at hcb
      go_wp2_with fail
      refine (hI1 _ hrb).mono ?_
      rintro e w21 ⟨rfl, hb20⟩
      have HL := Lib.hid (HL.out.next hb20)
      clear hcb hzb hrb hb20 hL1
      obtain ⟨hL1, hcb, hzb, hrb⟩ := HL.out
      rw [HGl.out] at hcb
      go_wp2_with fail
      refine (hI2 _ hrb).mono ?_
      rintro e w22 ⟨rfl, hb20⟩
      have HL := Lib.hid (HL.out.next hb20)
      clear hcb hzb hrb hb20 hL1
      obtain ⟨hL1, hcb, hzb, hrb⟩ := HL.out
      rw [HGl.out] at hcb
      go_wp2_with fail
      refine (hI3 _ hrb).mono ?_
      rintro e w23 ⟨rfl, hb20⟩
      have HL := Lib.hid (HL.out.next hb20)
      clear hcb hzb hrb hb20 hL1
      go_wp2_with fail
      go_ret
      exact ⟨rfl, HL.out.1⟩
    · have hV := Sw.vGrid_no hp
      rw [hV] at hI hS hlen
      obtain ⟨l, hl⟩ : ∃ l : List Int, l = [] := ⟨_, rfl⟩
      rw [← hl] at hI hS
      have HE : Hid (l.length = 0) := by show _ = _; rw [hl]; rfl
      have hlen : l.length ≤ 9 := by rw [hl]; simp
      have hz1 : ((l.length : Int) == 0) = true := by rw [hl]; rfl
      clear hV hl hp
      go_wp2_with fail
      refine (hI _).mono ?_
      rintro e w2 ⟨v1, rfl, hO, hb2⟩
      obtain ⟨A1, c1, rfl, hr1⟩ := hO.rd
      have HL := Lib.hid (Lw.start (c1 := c1) hr1 (hb.trans (hb2.mono hb.size)) 27)
      clear hO hr1 hb2 hb
      obtain ⟨_, hcb, hzb, hrb⟩ := HL.out
      go_wp2_with fail
      go_region_held3 (fun w' => w'.cell? ⟨w2.heap.size, 0, none⟩ = some (.slice A1 l.length c1)) (first | exact hcb | exact hS_K1 | exact hS_K2) (first | (have hq := hS_K1; clear hq; go_at_call 11; refine (sameGraph l A1 A2 c1 c2 (by omega) _ (by exact hr_K1) (by exact hr3)).mono ?_; rintro e Y2 ⟨rfl, z2⟩; have K2 := Lib.hid (K1.out.next (by exact z2)); have hS_K2 := K2.out.2.1) | (go_at_call 12; refine (hS _).mono ?_; rintro e Y1 ⟨v2, rfl, hO2, z1⟩; obtain ⟨A2, c2, rfl, hr3⟩ := hO2.rd; have K1 := Lib.hid (HL.out.next (undrew (by exact z1))); have hS_K1 := K1.out.2.1; have hr_K1 := K1.out.2.2.2))
      have HL := K2
      clear hcb hzb hrb K1 K2 hS_K1 hS_K2 hr_K1 hO2 hr3 z1 z2
      rename Y2.cell? _ = some _ => hq
      clear hq
      obtain ⟨hL1, hcb, hzb, hrb⟩ := HL.out
      rw [HE.out] at hcb
      clear hL1
      go_wp2_with fail
      refine (alive _).mono ?_
      rintro e w20 ⟨rfl, hb20⟩
      have HL := Lib.hid (HL.out.next hb20)
      go_wp2_with fail
      go_ret
      exact ⟨rfl, HL.out.1⟩
  · go_enter Try.func3, Try.ntmps3
    go_wp2_with fail
    go_ret
    exact ⟨rfl, Below.refl _ _⟩
namespace rowGridOf
theorem contract (H : Type) (enc : TypeId × Value → H) (W : World) (base : Nat) (args : Array Value) (ds gs : List (DataW H)) (before : List MemPlace)
    (hval : ∀ (j : Nat) t v, Try.f3.params[j]? = some t → args[j]? = some v → Value.okWide Try.prog W .any base t v)
    (hW : DataW.Whole enc Try.prog Try.f3.params.toList Rows.fnGridOfSpec.vars false W args.toList ds gs before) :
    Calls Try.prog 3 args W fun e W' => ∃ v, e = .returned v ∧ Rows.fnGridOfSpec.post enc Try.prog Try.f3 false true false false W args v W' := by
  have hW' := hW
  obtain ⟨p, q, hA0, hV, rfl, _, _⟩ := hW
  obtain ⟨rfl, rfl⟩ := trodVars_none hV
  simp only [List.append_nil] at hW'
  have hlt : ∀ x ∈ p, x.block < W.heap.size := fun x hx => hW'.lt x hx
  have hA : DataW.TrodAll enc Try.prog W 0 (fun _ => true) true Try.f3.params.toList args.toList ds p := hA0
  rw [Try.params3] at hA hval
  obtain ⟨v0, vs0, d0, ds0, p0, q0, hargs, rfl, rfl, h0, r0⟩ := trodAll_cons hA
  obtain ⟨rfl, rfl, rfl⟩ := trodAll_nil r0
  obtain rfl : args = #[v0] := by cases args; simp_all
  obtain ⟨A0, n0, c0, rfl, m0, k0, g0⟩ := open_bytes (hval 0 _ v0 rfl rfl) h0 (fun x hx => hlt x (by simp [hx]))
  refine (lawGridOf A0 n0 c0 m0 k0 W g0).mono fun e W' ⟨he, hg⟩ => ?_
  subst he
  exact ⟨_, rfl, post_true rfl (by kernel_rfl) rfl (by kernel_rfl) hW' hA0 hg⟩
set_option maxRecDepth 100000 in
theorem lifted (os : Os) (started : os.Started) (H : Type) (enc : TypeId × Value → H) :
    ReturnsInHanded {} Try.checked os 3 .any (Rows.fnGridOfSpec.pre6 enc Try.prog Try.f3 Rows.fnGridOfRow.domain false) (Rows.fnGridOfSpec.post enc Try.prog Try.f3 false true false false) := by
  refine returnsInHanded_of_change (C := Try.checked) own_knob started (by kernel_rfl) Try.func3
    (ChangeSpec.witness6 (enc := enc) (C := Try.checked) false ⟨#[], #[.slice none 0 0], []⟩ 8 (by kernel_rfl) (by kernel_rfl) (by kernel_rfl) (by kernel_rfl)) ?_
  intro W base args ds gs before hval hW _ _
  exact contract H enc W base args ds gs before hval hW
end rowGridOf
theorem GridOf_holds : Rows.FnGridOfSaid :=
  OpenClaim.holds_of_wide 3 Try.f3 rfl rfl rfl rfl rfl rfl rfl ⟨rfl, rfl, rfl, rfl, rfl⟩ rfl rfl rfl rfl rfl (by kernel_rfl) Try.func3 (by kernel_rfl)
    (of_decide_eq_true (by kernel_rfl)) (by unfold Func.isWrapper; first | (rw [if_pos (by decide +kernel)]; kernel_rfl) | (rw [if_neg (by decide +kernel)]; exact ⟨rfl, rfl⟩))
    (fun os started H enc _ => rowGridOf.lifted os started H enc)
#print axioms GridOf_holds
end Go.Proofs.Ytakgcdiofpijmaa

