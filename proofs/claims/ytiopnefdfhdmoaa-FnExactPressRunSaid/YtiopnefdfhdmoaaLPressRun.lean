/- FnExactPressRun: the program's PressRun returns what the reference's returns, for all arguments. No conditions. -/
import Derived.Test.YtiopnefdfhdmoaaHelp
import Derived.Test.YtiopnefdfhdmoaaRun
import Derived.Test.YtiopnefdfhdmoaaRowG
import Derived.Deep.RegionHeld3
import Derived.Deep.DeepCutAuto
namespace Go.Proofs.Ytiopnefdfhdmoaa
open Go.ChangeShapes Go.WideShapes Go.ChangeAt Go.RowKit
set_option maxHeartbeats 1000000 in
theorem lawPressRun (l P : List Int) (A A2 : Option Addr) (c c2 : Nat) (s : Int) (hm : l.length ≤ maxLen) (hmP : P.length ≤ maxLen) (w : World) (hr : RdI w w.heap.size A l) (hp : RdI w w.heap.size A2 P) :
    Calls Try.prog 8 #[.agg #[.slice A l.length c], .int .i64 s, .slice A2 P.length c2] w fun e w' => e = .returned (.bool true) ∧ Below w.heap.size w w' := by
  unfold maxLen at hmP
  by_cases hP : (P.length : Int) ≤ 1048576
  · by_cases hl : l.length ≤ 1048576
    · go_enter Try.func8, Try.ntmps8
      go_wp2_with fail
      refine (szGraph_yes A l.length c _ (by omega) (by omega) hm (by omega) _).mono ?_
      rintro e w1 ⟨rfl, hb⟩
      obtain ⟨hb, hc, hz⟩ := box_after hb
      go_wp2_with fail
      refine (toGraph l A c hl _ (hr.at_ hb)).mono ?_
      rintro e w2 ⟨v1, rfl, ho1, hb2⟩
      obtain ⟨hb, hc, hz⟩ := box_next hb hc hz hb2
      obtain ⟨A1, c1, rfl, hr1⟩ := ho1.rd
      go_wp2_with fail
      refine (toIntS P A2 c2 (by omega) _ (hp.at_ hb)).mono ?_
      rintro e w3 ⟨vp, rfl, hop, hb3⟩
      obtain ⟨hb, hc, hz⟩ := box_next hb hc hz hb3
      obtain ⟨A3, c3, rfl, hr3⟩ := hop.rd
      go_wp2_with fail
      refine (specPressRun l P A1 A3 c1 c3 s (by omega) (by omega) _ (hr1.at_ hb3) hr3).mono ?_
      rintro e w4 ⟨rfl, hb4⟩
      obtain ⟨hb, hc, hz⟩ := box_next hb hc hz hb4
      clear ho1 hop hr1 hr3 hb2 hb3 hb4
      obtain ⟨X, hX⟩ : ∃ x, x = Sw.vRun l s P := ⟨_, rfl⟩
      have HX := Lib.hid hX
      rw [← hX]
      clear hX
      go_wp2_with fail
      refine (toGraph l A c hl _ (hr.at_ hb)).mono ?_
      rintro e w5 ⟨v2, rfl, ho2, hb5⟩
      obtain ⟨hb, hc, hz⟩ := box_next hb hc hz hb5
      obtain ⟨A4, c4, rfl, hr4⟩ := ho2.rd
      go_wp2_with fail
      refine (toIntS P A2 c2 (by omega) _ (hp.at_ (hb.trans ((below1 _).mono hb.size)))).mono ?_
      rintro e w6 ⟨v3, rfl, ho3, hb6⟩
      obtain ⟨A5, c5, rfl, hr5⟩ := ho3.rd
      obtain ⟨hb6', hx, hzx⟩ := box_after hb6
      obtain ⟨hb, hc, hz⟩ := box_next hb hc hz hb6'
      go_wp2_with fail
      refine (implPressRun l P A4 A5 c4 c5 s (by omega) (by omega) _ (hr4.at_ hb6') hr5).mono ?_
      rw [← HX.out]
      rintro e w7 ⟨rfl, hb7⟩
      obtain ⟨hb7', hx, hzx⟩ := box_next hb6' hx hzx hb7
      obtain ⟨hb, hc, hz⟩ := box_next hb hc hz hb7
      have hr2 := hr4.at_ hb7'
      have hr5 := hr5.at_ hb7
      have hra := hr.at_ hb
      clear ho2 ho3 hb5 hb6 hb6' hb7 hb7' hr4
      go_wp2_with fail
      go_region_held3 (fun w' => w'.cell? ⟨w5.heap.size, 0, none⟩ = some (.slice A4 l.length c4) ∧ w'.cell? ⟨w.heap.size, 0, none⟩ = some (.slice A l.length c)) (first | exact ⟨hx, hc⟩ | exact hS7 | exact hS6) (first | (go_at_call 11; refine (toGraph l A c hl _ (by exact hra)).mono ?_; rintro e w8 ⟨v3, rfl, ho3, hb6⟩; obtain ⟨A3, c3, rfl, hr3⟩ := ho3.rd; have hr2' := RdI.at_ (by exact hr2) hb6; have hS6 := And.intro ((hb6.cell (p := ⟨w5.heap.size, 0, none⟩) (by exact hzx)).trans (by exact hx)) ((hb6.cell (p := ⟨w.heap.size, 0, none⟩) (by exact hz)).trans (by exact hc))) | (go_at_call 13; refine (eqGraph l A4 A3 c4 c3 hl _ (by exact hr2') (by exact hr3)).mono ?_; rintro e w9 ⟨rfl, hb7⟩; have hb67 := hb6.trans (hb7.mono hb6.size); have hS7 := And.intro ((hb67.cell (p := ⟨w5.heap.size, 0, none⟩) (by exact hzx)).trans (by exact hx)) ((hb67.cell (p := ⟨w.heap.size, 0, none⟩) (by exact hz)).trans (by exact hc))))
      have hb9 : Below w7.heap.size w7 w9 := undrew hb67
      have hbz := hb.trans (hb9.mono hb.size)
      have hr9 := hr5.at_ hb9
      go_wp2_with fail
      refine (toIntS P A2 c2 (by omega) _ (hp.at_ hbz)).mono ?_
      rintro e w10 ⟨v5, rfl, ho5, hb10⟩
      obtain ⟨A6, c6, rfl, hr6⟩ := ho5.rd
      go_wp2_with fail
      refine (eqIntS P A5 A6 c5 c6 (by omega) _ (hr9.at_ hb10) hr6).mono ?_
      rintro e w11 ⟨rfl, n, rfl⟩
      go_wp2_with fail
      go_ret
      exact ⟨rfl, bdr (hbz.trans (hb10.mono hbz.size)) n⟩
    · go_enter Try.func8, Try.ntmps8
      go_wp2_with fail
      refine (szGraph_no A l.length c _ (by omega) (by omega) hm (by omega) _).mono ?_
      rintro e w1 ⟨rfl, hb⟩
      obtain ⟨hb, hc, hz⟩ := box_after hb
      go_wp2_with fail
      go_ret
      exact ⟨rfl, hb⟩
  · go_enter Try.func8, Try.ntmps8
    go_wp2_with fail
    go_ret
    exact ⟨rfl, below1 _⟩
namespace rowPressRun
theorem contract (H : Type) (enc : TypeId × Value → H) (W : World) (base : Nat) (args : Array Value) (ds gs : List (DataW H)) (before : List MemPlace)
    (hval : ∀ (j : Nat) t v, Try.f8.params[j]? = some t → args[j]? = some v → Value.okWide Try.prog W .any base t v)
    (hW : DataW.Whole enc Try.prog Try.f8.params.toList Rows.fnExactPressRunSpec.vars false W args.toList ds gs before) :
    Calls Try.prog 8 args W fun e W' => ∃ v, e = .returned v ∧ Rows.fnExactPressRunSpec.post enc Try.prog Try.f8 false true false false W args v W' := by
  have hW' := hW
  obtain ⟨p, q, hA0, hV, rfl, _, _⟩ := hW
  obtain ⟨rfl, rfl⟩ := trodVars_none hV
  simp only [List.append_nil] at hW'
  have hlt : ∀ x ∈ p, x.block < W.heap.size := fun x hx => hW'.lt x hx
  have hA : DataW.TrodAll enc Try.prog W 0 (fun _ => true) true Try.f8.params.toList args.toList ds p := hA0
  rw [Try.params8] at hA hval
  obtain ⟨v0, vs0, d0, ds0, p0, q0, hargs, rfl, rfl, h0, r0⟩ := trodAll_cons hA
  obtain ⟨v1, vs1, d1, ds1, p1, q1, rfl, rfl, rfl, h1, r1⟩ := trodAll_cons r0
  obtain ⟨v2, vs2, d2, ds2, p2, q2, rfl, rfl, rfl, h2, r2⟩ := trodAll_cons r1
  obtain ⟨rfl, rfl, rfl⟩ := trodAll_nil r2
  obtain rfl : args = #[v0, v1, v2] := by cases args; simp_all
  obtain ⟨A0, c0, l0, rfl, m0, g0, _⟩ := open_graph (hval 0 _ v0 rfl rfl) h0 (fun x hx => hlt x (by simp [hx]))
  obtain ⟨x1, rfl, rfl, rfl, wx1⟩ := open_int Try.underlying3 (hval 1 _ v1 rfl rfl) h1
  obtain ⟨A2, c2, l2, rfl, m2, g2, _⟩ := open_intlist (hval 2 _ v2 rfl rfl) h2 (fun x hx => hlt x (by simp [hx]))
  refine (lawPressRun l0 l2 A0 A2 c0 c2 x1 m0 m2 W g0 g2).mono fun e W' ⟨he, hg⟩ => ?_
  subst he
  exact ⟨_, rfl, post_true rfl (by kernel_rfl) rfl (by kernel_rfl) hW' hA0 hg⟩
set_option maxRecDepth 100000 in
theorem lifted (os : Os) (started : os.Started) (H : Type) (enc : TypeId × Value → H) :
    ReturnsInHanded {} Try.checked os 8 .any (Rows.fnExactPressRunSpec.pre6 enc Try.prog Try.f8 Rows.fnExactPressRunRow.domain false) (Rows.fnExactPressRunSpec.post enc Try.prog Try.f8 false true false false) := by
  refine returnsInHanded_of_change (C := Try.checked) own_knob started (by kernel_rfl) Try.func8
    (ChangeSpec.witness6 (enc := enc) (C := Try.checked) false ⟨#[], #[.agg #[.slice none 0 0], .int .i64 0, .slice none 0 0], []⟩ 8 (by kernel_rfl) (by kernel_rfl) (by kernel_rfl) (by kernel_rfl)) ?_
  intro W base args ds gs before hval hW _ _
  exact contract H enc W base args ds gs before hval hW
end rowPressRun
theorem PressRun_holds : Rows.FnExactPressRunSaid :=
  OpenClaim.holds_of_wide 8 Try.f8 rfl rfl rfl rfl rfl rfl rfl ⟨rfl, rfl, rfl, rfl, rfl⟩ rfl rfl rfl rfl rfl (by kernel_rfl) Try.func8 (by kernel_rfl)
    (of_decide_eq_true (by kernel_rfl)) (by unfold Func.isWrapper; first | (rw [if_pos (by decide +kernel)]; kernel_rfl) | (rw [if_neg (by decide +kernel)]; exact ⟨rfl, rfl⟩))
    (fun os started H enc _ => rowPressRun.lifted os started H enc)
#print axioms PressRun_holds
end Go.Proofs.Ytiopnefdfhdmoaa

