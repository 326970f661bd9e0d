/- FnExactGridOf: the program's GridOf returns what the reference's returns, for all arguments. No conditions. -/
import Derived.Test.YtigaadfopbdedaaGrid2
import Derived.Test.YtigaadfopbdedaaMark
import Derived.Test.YtigaadfopbdedaaRow
namespace Go.Proofs.Ytigaadfopbdedaa
open Go.ChangeShapes Go.WideShapes Go.ChangeAt Go.RowKit
theorem lawGridOf (p : Int) (q : Int) (w : World) :
    Calls Try.prog 6 #[.int .i64 p, .int .i64 q] w fun e w' => e = .returned (.bool true) ∧ Below w.heap.size w w' := by
  have hlen : (Sw.vGrid p q).length ≤ 9 := Sw.vGrid_len p q
  go_enter Try.func6, Try.ntmps6
  go_wp2_with fail
  refine (specGridOf p q _).mono ?_
  rintro e w1 ⟨v1, rfl, ho1, hb1⟩
  obtain ⟨A1, c1, rfl, _⟩ := ho1.rd
  have HO1 := Lib.hid ho1
  clear ho1
  go_wp2_with fail
  refine (implGridOf p q _).mono ?_
  rintro e w2 ⟨v2, rfl, ho2, hb2⟩
  obtain ⟨A2, c2, rfl, _⟩ := ho2.rd
  have hst := Lib.hid (St.start (t := 25) HO1.out hb1 ho2 hb2)
  have hz12 := (box_after hb2).2.2
  have hz01 := hb1.size
  clear ho2 HO1 hb2 hb1
  have hc1 := hst.out.2.1
  have hc2 := hst.out.2.2.1
  go_wp2_with fail
  refine (eqGraph (Sw.vGrid p q) A2 A1 c2 c1 (by omega) _ hst.out.rd2 hst.out.rd1).mono ?_
  rintro e w3 ⟨rfl, hb3⟩
  have hst3 := Lib.hid (hst.out.next hb3)
  clear hst hc1 hc2 hb3
  have hc1 := hst3.out.2.1
  have hc2 := hst3.out.2.2.1
  go_wp2_with fail
  refine (markGraph (Sw.vGrid p q) _ _ (.slice A2 (Sw.vGrid p q).length c2) 1 (by omega) (by decide) (by decide) _ hst3.out.2.2.2.2.2.2).mono ?_
  rintro e w4 ⟨rfl, ho4, hg4⟩
  have hst4 := Lib.hid (hst3.out.mark hg4 ho4 (by omega) (by omega) (by omega) (by omega))
  clear hst3 hc1 hc2 ho4 hg4
  have hc1 := hst4.out.2.1
  have hc2 := hst4.out.2.2.1
  go_wp2_with fail
  refine (heldGraph (Sw.vGrid p q).length A2 c2 1 (by omega) (by decide) (by decide) _ hst4.out.rd2).mono ?_
  rintro e w5 ⟨rfl, hb5⟩
  have hst5 := Lib.hid (hst4.out.next hb5)
  clear hst4 hc1 hc2 hb5
  have hc1 := hst5.out.2.1
  have hc2 := hst5.out.2.2.1
  go_wp2_with fail
  refine (implGridOf p q _).mono ?_
  rintro e w6 ⟨v3, rfl, ho6, hb6⟩
  obtain ⟨A3, c3, rfl, hr3⟩ := ho6.rd
  have hst6 := Lib.hid ((hst5.out.next hb6).next (below1 (.cells #[.slice A3 (Sw.vGrid p q).length c3] 25)))
  clear hst5 hc1 hc2 hb6 ho6
  have hc1 := hst6.out.2.1
  have hc2 := hst6.out.2.2.1
  go_wp2_with fail
  refine (eqGraph (Sw.vGrid p q) A3 A1 c3 c1 (by omega) _ (hr3.at_ (below1 _)) hst6.out.rd1).mono ?_
  rintro e w7 ⟨rfl, hb7⟩
  have hst7 := Lib.hid (hst6.out.next hb7)
  clear hst6 hc1 hc2 hb7
  have hc1 := hst7.out.2.1
  have hc2 := hst7.out.2.2.1
  go_wp2_with fail
  refine (heldGraph (Sw.vGrid p q).length A2 c2 1 (by omega) (by decide) (by decide) _ hst7.out.rd2).mono ?_
  rintro e w8 ⟨rfl, hb8⟩
  have hst8 := Lib.hid (hst7.out.next hb8)
  clear hst7 hc1 hc2 hb8
  go_wp2_with fail
  go_ret
  exact ⟨rfl, hst8.out.1⟩
namespace rowGridOf
theorem contract (H : Type) (enc : TypeId × Value → H) (W : World) (base : Nat) (args : Array Value) (ds gs : List (DataW H)) (before : List MemPlace)
    (hval : ∀ (j : Nat) t v, Try.f6.params[j]? = some t → args[j]? = some v → Value.okWide Try.prog W .any base t v)
    (hW : DataW.Whole enc Try.prog Try.f6.params.toList Rows.fnExactGridOfSpec.vars false W args.toList ds gs before) :
    Calls Try.prog 6 args W fun e W' => ∃ v, e = .returned v ∧ Rows.fnExactGridOfSpec.post enc Try.prog Try.f6 false true false false W args v W' := by
  have hW' := hW
  obtain ⟨p, q, hA0, hV, rfl, _, _⟩ := hW
  obtain ⟨rfl, rfl⟩ := trodVars_none hV
  simp only [List.append_nil] at hW'
  have hlt : ∀ x ∈ p, x.block < W.heap.size := fun x hx => hW'.lt x hx
  have hA : DataW.TrodAll enc Try.prog W 0 (fun _ => true) true Try.f6.params.toList args.toList ds p := hA0
  rw [Try.params6] at hA hval
  obtain ⟨v0, vs0, d0, ds0, p0, q0, hargs, rfl, rfl, h0, r0⟩ := trodAll_cons hA
  obtain ⟨v1, vs1, d1, ds1, p1, q1, rfl, rfl, rfl, h1, r1⟩ := trodAll_cons r0
  obtain ⟨rfl, rfl, rfl⟩ := trodAll_nil r1
  obtain rfl : args = #[v0, v1] := by cases args; simp_all
  obtain ⟨x0, rfl, rfl, rfl, wx0⟩ := open_int Try.underlying3 (hval 0 _ v0 rfl rfl) h0
  obtain ⟨x1, rfl, rfl, rfl, wx1⟩ := open_int Try.underlying3 (hval 1 _ v1 rfl rfl) h1
  refine (lawGridOf x0 x1 W).mono fun e W' ⟨he, hg⟩ => ?_
  subst he
  exact ⟨_, rfl, post_true rfl (by kernel_rfl) rfl (by kernel_rfl) hW' hA0 hg⟩
set_option maxRecDepth 100000 in
theorem lifted (os : Os) (started : os.Started) (H : Type) (enc : TypeId × Value → H) :
    ReturnsInHanded {} Try.checked os 6 .any (Rows.fnExactGridOfSpec.pre6 enc Try.prog Try.f6 Rows.fnExactGridOfRow.domain false) (Rows.fnExactGridOfSpec.post enc Try.prog Try.f6 false true false false) := by
  refine returnsInHanded_of_change (C := Try.checked) own_knob started (by kernel_rfl) Try.func6
    (ChangeSpec.witness6 (enc := enc) (C := Try.checked) false ⟨#[], #[.int .i64 0, .int .i64 0], []⟩ 8 (by kernel_rfl) (by kernel_rfl) (by kernel_rfl) (by kernel_rfl)) ?_
  intro W base args ds gs before hval hW _ _
  exact contract H enc W base args ds gs before hval hW
end rowGridOf
theorem GridOf_holds : Rows.FnExactGridOfSaid :=
  OpenClaim.holds_of_wide 6 Try.f6 rfl rfl rfl rfl rfl rfl rfl ⟨rfl, rfl, rfl, rfl, rfl⟩ rfl rfl rfl rfl rfl (by kernel_rfl) Try.func6 (by kernel_rfl)
    (of_decide_eq_true (by kernel_rfl)) (by unfold Func.isWrapper; first | (rw [if_pos (by decide +kernel)]; kernel_rfl) | (rw [if_neg (by decide +kernel)]; exact ⟨rfl, rfl⟩))
    (fun os started H enc _ => rowGridOf.lifted os started H enc)
#print axioms GridOf_holds
end Go.Proofs.Ytigaadfopbdedaa

