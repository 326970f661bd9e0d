/- FnExactLineSet: the program's LineSet returns what the reference's returns, for all arguments. No conditions. -/
import Derived.Test.YtiopnefdfhdmoaaItem
import Derived.Test.YtiopnefdfhdmoaaLine2
import Derived.Test.YtiopnefdfhdmoaaLine6
import Derived.Test.YtiopnefdfhdmoaaRowG
import Derived.Deep.RegionHeld3
import Derived.Deep.DeepCutAuto
namespace Go.Proofs.Ytiopnefdfhdmoaa
open Go.ChangeShapes Go.WideShapes Go.ChangeAt Go.RowKit
set_option maxHeartbeats 2000000 in
theorem lawLineSet (l : List Int) (A : Option Addr) (c : Nat) (p q : Int) (on : Bool) (hm : l.length ≤ maxLen) (w : World) (hr : RdI w w.heap.size A l) :
    Calls Try.prog 5 #[.agg #[.slice A l.length c], .int .i64 p, .int .i64 q, .bool on] w fun e w' => e = .returned (.bool true) ∧ Below w.heap.size w w' := by
  by_cases hl : l.length ≤ 1048576
  · have hS := specLineSet l
    have hI := implLineSet l
    have hlen := Sw.vLine_len l p q on
    obtain ⟨L, hL⟩ : ∃ L, L = Sw.vLine l p q on := ⟨_, rfl⟩
    obtain ⟨ok, hok⟩ : ∃ ok, ok = Sw.vLineB l p q := ⟨_, rfl⟩
    have HS : Hid (∀ (A : Option Addr) (c : Nat) (w : World), RdI w w.heap.size A l → Calls Try.prog 16 #[.agg #[.slice A l.length c], .int .i64 p, .int .i64 q, .bool on] w fun e w' => ∃ v, e = .returned (.tuple #[.agg #[v], .bool ok]) ∧ OwnI w' w.heap.size w'.heap.size v L ∧ Below w.heap.size w w') := by
      intro A c w h; rw [hL, hok]; exact hS A c p q on hl w h
    have HI : Hid (∀ (A : Option Addr) (c : Nat) (w : World), RdI w w.heap.size A l → Calls Try.prog 17 #[.agg #[.slice A l.length c], .int .i64 p, .int .i64 q, .bool on] w fun e w' => ∃ v, e = .returned (.tuple #[.agg #[v], .bool ok]) ∧ OwnI w' w.heap.size w'.heap.size v L ∧ Below w.heap.size w w') := by
      intro A c w h; rw [hL, hok]; exact hI A c p q on hl w h
    rw [← hL] at hlen
    clear hL hok hS hI
    go_enter Try.func5, Try.ntmps5
    go_wp2_with fail
    refine (szGraph_yes A l.length c _ (by omega) (by omega) hm (by omega) _).mono ?_
    rintro e w1 ⟨rfl, hb⟩
    have hA := box_after hb
    have ha0 : Ar w w1 (.slice A l.length c) := hA
    obtain ⟨_, hc, hz⟩ := hA
    have HA := Lib.hid ha0
    clear hb ha0
    go_wp2_with fail
    refine (toGraph l A c hl _ (hr.at_ HA.out.1)).mono ?_
    rintro e w2 ⟨v1, rfl, ho1, hb2⟩
    have HA2 := Lib.hid (HA.out.next hb2)
    obtain ⟨_, hc, hz⟩ := HA2.out
    obtain ⟨A1, c1, rfl, hr1⟩ := ho1.rd
    clear HA ho1 hb2
    go_wp2_with fail
    refine (HS.out A1 c1 _ hr1).mono ?_
    rintro e w3 ⟨vS, rfl, hoS, hb3⟩
    obtain ⟨AS, cS, rfl, _⟩ := hoS.rd
    have HA3 := Lib.hid ((HA2.out.next hb3).next (below1 (.cells #[.slice AS L.length cS] 27)))
    have X3 := Lib.hid (It.new hoS 27)
    obtain ⟨_, hc, hz⟩ := HA3.out
    have s2 := HA2.out.2.2
    have s3 := hb3.size
    have hc10 := X3.out.1
    clear HA2 hoS hb3 hr1
    go_wp2_with fail
    refine (toGraph l A c hl _ (hr.at_ HA3.out.1)).mono ?_
    rintro e w4 ⟨v2, rfl, ho2, hb4⟩
    obtain ⟨A2, c2, rfl, hr2⟩ := ho2.rd
    have s4 := hb4.size
    simp only [World.size_alloc] at s4
    have hb4' : Below (w3.alloc (.cells #[.slice AS L.length cS] 27)).heap.size (w3.alloc (.cells #[.slice AS L.length cS] 27)) (w4.alloc (.cells #[.slice A2 l.length c2] 27)) := hb4.trans ((below1 _).mono hb4.size)
    have HA4 := Lib.hid (HA3.out.next hb4')
    have X4 := Lib.hid (X3.out.next hb4')
    have G4 := Lib.hid (It.new ho2 27)
    obtain ⟨_, hc, hz⟩ := HA4.out
    have hc10 := X4.out.1
    have hc12 := G4.out.1
    clear HA3 X3 ho2 hb4 hb4'
    go_wp2_with fail
    refine (HI.out A2 c2 _ (hr2.at_ (below1 _))).mono ?_
    rintro e w5 ⟨vI, rfl, hoI, hb5⟩
    obtain ⟨AI, cI, rfl, _⟩ := hoI.rd
    have s5 := hb5.size
    simp only [World.size_alloc] at s5
    have hb5' : Below (w4.alloc (.cells #[.slice A2 l.length c2] 27)).heap.size (w4.alloc (.cells #[.slice A2 l.length c2] 27)) (w5.alloc (.cells #[.slice AI L.length cI] 27)) := hb5.trans ((below1 _).mono hb5.size)
    have HA5 := Lib.hid (HA4.out.next hb5')
    have X5 := Lib.hid (X4.out.next hb5')
    have G5 := Lib.hid (G4.out.next hb5')
    have Y5 := Lib.hid (It.new hoI 27)
    obtain ⟨_, hc, hz⟩ := HA5.out
    have hc10 := X5.out.1
    have hc12 := G5.out.1
    have hc13 := Y5.out.1
    clear HA4 X4 G4 hoI hb5 hb5' hr2
    go_wp2_with fail
    refine (eqGraph L AI AS cI cS (by omega) _ Y5.out.rd X5.out.rd).mono ?_
    rintro e w6 ⟨rfl, hb6⟩
    have HA6 := Lib.hid (HA5.out.next hb6)
    have X6 := Lib.hid (X5.out.next hb6)
    have G6 := Lib.hid (G5.out.next hb6)
    have Y6 := Lib.hid (Y5.out.next hb6)
    obtain ⟨_, hc, hz⟩ := HA6.out
    have hc10 := X6.out.1
    have hc12 := G6.out.1
    have hc13 := Y6.out.1
    have hb12 := G6.out.2.1
    have hr2 := G6.out.rd
    have hra := hr.at_ HA6.out.1
    clear HA5 X5 G5 Y5 hb6
    go_wp2_with fail
    go_region_held3 (fun w' => w'.cell? ⟨w4.heap.size, 0, none⟩ = some (.slice A2 l.length c2) ∧ w'.cell? ⟨w.heap.size, 0, none⟩ = some (.slice A l.length c)) (first | exact ⟨hc12, hc⟩ | exact hS7 | exact hS6) (first | (go_at_call 11; refine (toGraph l A c hl _ (by exact hra)).mono ?_; rintro e w8 ⟨v3, rfl, ho3, hb8⟩; obtain ⟨A3, c3, rfl, hr3⟩ := ho3.rd; have hr2' := RdI.at_ (by exact hr2) hb8; have hS6 := And.intro ((hb8.cell (p := ⟨w4.heap.size, 0, none⟩) (by exact hb12)).trans (by exact hc12)) ((hb8.cell (p := ⟨w.heap.size, 0, none⟩) (by exact hz)).trans (by exact hc))) | (go_at_call 13; refine (eqGraph l A2 A3 c2 c3 hl _ (by exact hr2') (by exact hr3)).mono ?_; rintro e w7 ⟨rfl, hb7⟩; have hb67 := hb8.trans (hb7.mono hb8.size); have hS7 := And.intro ((hb67.cell (p := ⟨w4.heap.size, 0, none⟩) (by exact hb12)).trans (by exact hc12)) ((hb67.cell (p := ⟨w.heap.size, 0, none⟩) (by exact hz)).trans (by exact hc))))
    have hb67' : Below w6.heap.size w6 w7 := undrew hb67
    have HA7 := Lib.hid (HA6.out.next hb67')
    have X7 := Lib.hid (X6.out.next hb67')
    have G7 := Lib.hid (G6.out.next hb67')
    have Y7 := Lib.hid (Y6.out.next hb67')
    clear HA6 X6 G6 Y6 hb67 hb67' hS7 hS6 hr2' hr3 ho3 hb8 hb7 hr2 hra hc hz hc10 hc12 hc13 hb12
    obtain ⟨_, hc, hz⟩ := HA7.out
    have hc10 := X7.out.1
    have hc12 := G7.out.1
    have hc13 := Y7.out.1
    go_wp2_with fail
    refine (markGraph l _ _ _ 1 hl (by decide) (by decide) _ G7.out.2.2).mono ?_
    rintro e w8 ⟨rfl, ho8, hg8⟩
    have HA8 := Lib.hid (HA7.out.far G7.out.2.2 hg8 (by (try simp only [World.size_alloc]); omega))
    have X8 := Lib.hid (X7.out.far G7.out.2.2 hg8 (by (try simp only [World.size_alloc]); omega) (by (try simp only [World.size_alloc]); omega))
    have Y8 := Lib.hid (Y7.out.far G7.out.2.2 hg8 (by (try simp only [World.size_alloc]); omega) (by (try simp only [World.size_alloc]); omega))
    clear HA7 X7 G7 Y7 ho8 hg8 hc12
    obtain ⟨_, hc, hz⟩ := HA8.out
    have hc10 := X8.out.1
    have hc13 := Y8.out.1
    go_wp2_with fail
    refine (eqGraph L AI AS cI cS (by omega) _ Y8.out.rd X8.out.rd).mono ?_
    rintro e w9 ⟨rfl, hb9⟩
    have HA9 := Lib.hid (HA8.out.next hb9)
    have X9 := Lib.hid (X8.out.next hb9)
    have Y9 := Lib.hid (Y8.out.next hb9)
    clear HA8 X8 Y8 hb9
    obtain ⟨_, hc, hz⟩ := HA9.out
    have hc10 := X9.out.1
    have hc13 := Y9.out.1
    go_wp2_with fail
    refine (markGraph L _ _ _ 1 (by omega) (by decide) (by decide) _ Y9.out.2.2).mono ?_
    rintro e w10 ⟨rfl, ho10, hg10⟩
    have HA10 := Lib.hid (HA9.out.far Y9.out.2.2 hg10 (by (try simp only [World.size_alloc]); omega))
    have X10 := Lib.hid (X9.out.far Y9.out.2.2 hg10 (by (try simp only [World.size_alloc]); omega) (by (try simp only [World.size_alloc]); omega))
    have Y10 := Lib.hid (Y9.out.mark ho10 hg10 (by (try simp only [World.size_alloc]); omega))
    clear HA9 X9 Y9 ho10 hg10
    obtain ⟨_, hc, hz⟩ := HA10.out
    have hc10 := X10.out.1
    have hc13 := Y10.out.1
    go_wp2_with fail
    refine (heldGraph L.length AI cI 1 (by omega) (by decide) (by decide) _ Y10.out.rd).mono ?_
    rintro e w11 ⟨rfl, hb11⟩
    have HA11 := Lib.hid (HA10.out.next hb11)
    have X11 := Lib.hid (X10.out.next hb11)
    have Y11 := Lib.hid (Y10.out.next hb11)
    clear HA10 X10 Y10 hb11
    obtain ⟨_, hc, hz⟩ := HA11.out
    have hc10 := X11.out.1
    have hc13 := Y11.out.1
    go_wp2_with fail
    refine (toGraph l A c hl _ (hr.at_ HA11.out.1)).mono ?_
    rintro e w12 ⟨v4, rfl, ho12, hb12⟩
    obtain ⟨A4, c4, rfl, hr4⟩ := ho12.rd
    have HA12 := Lib.hid (HA11.out.next hb12)
    have X12 := Lib.hid (X11.out.next hb12)
    have Y12 := Lib.hid (Y11.out.next hb12)
    clear HA11 X11 Y11 hb12 ho12
    obtain ⟨_, hc, hz⟩ := HA12.out
    have hc10 := X12.out.1
    have hc13 := Y12.out.1
    go_wp2_with fail
    refine (HI.out A4 c4 _ hr4).mono ?_
    rintro e w13 ⟨v5, rfl, ho13, hb13⟩
    obtain ⟨A5, c5, rfl, hr5⟩ := ho13.rd
    have hb13' : Below w12.heap.size w12 (w13.alloc (.cells #[.slice A5 L.length c5] 27)) := hb13.trans ((below1 _).mono hb13.size)
    have HA13 := Lib.hid (HA12.out.next hb13')
    have X13 := Lib.hid (X12.out.next hb13')
    have Y13 := Lib.hid (Y12.out.next hb13')
    clear HA12 X12 Y12 hb13 hb13' ho13
    obtain ⟨_, hc, hz⟩ := HA13.out
    have hc10 := X13.out.1
    have hc13 := Y13.out.1
    go_wp2_with fail
    refine (eqGraph L A5 AS c5 cS (by omega) _ (hr5.at_ (below1 _)) X13.out.rd).mono ?_
    rintro e w14 ⟨rfl, hb14⟩
    have HA14 := Lib.hid (HA13.out.next hb14)
    have Y14 := Lib.hid (Y13.out.next hb14)
    clear HA13 X13 Y13 hb14
    obtain ⟨_, hc, hz⟩ := HA14.out
    have hc13 := Y14.out.1
    go_wp2_with fail
    refine (heldGraph L.length AI cI 1 (by omega) (by decide) (by decide) _ Y14.out.rd).mono ?_
    rintro e w15 ⟨rfl, hb15⟩
    have HA15 := Lib.hid (HA14.out.next hb15)
    clear HA14 Y14 hb15
    go_wp2_with fail
    go_ret
    exact ⟨rfl, HA15.out.1⟩
  · go_enter Try.func5, Try.ntmps5
    go_wp2_with fail
    refine (szGraph_no A l.length c _ (by omega) (by omega) hm (by omega) _).mono ?_
    rintro e w1 ⟨rfl, hb⟩
    obtain ⟨hb, hc, hz⟩ := box_after hb
    go_wp2_with fail
    go_ret
    exact ⟨rfl, hb⟩
namespace rowLineSet
theorem contract (H : Type) (enc : TypeId × Value → H) (W : World) (base : Nat) (args : Array Value) (ds gs : List (DataW H)) (before : List MemPlace)
    (hval : ∀ (j : Nat) t v, Try.f5.params[j]? = some t → args[j]? = some v → Value.okWide Try.prog W .any base t v)
    (hW : DataW.Whole enc Try.prog Try.f5.params.toList Rows.fnExactLineSetSpec.vars false W args.toList ds gs before) :
    Calls Try.prog 5 args W fun e W' => ∃ v, e = .returned v ∧ Rows.fnExactLineSetSpec.post enc Try.prog Try.f5 false true false false W args v W' := by
  have hW' := hW
  obtain ⟨p, q, hA0, hV, rfl, _, _⟩ := hW
  obtain ⟨rfl, rfl⟩ := trodVars_none hV
  simp only [List.append_nil] at hW'
  have hlt : ∀ x ∈ p, x.block < W.heap.size := fun x hx => hW'.lt x hx
  have hA : DataW.TrodAll enc Try.prog W 0 (fun _ => true) true Try.f5.params.toList args.toList ds p := hA0
  rw [Try.params5] at hA hval
  obtain ⟨v0, vs0, d0, ds0, p0, q0, hargs, rfl, rfl, h0, r0⟩ := trodAll_cons hA
  obtain ⟨v1, vs1, d1, ds1, p1, q1, rfl, rfl, rfl, h1, r1⟩ := trodAll_cons r0
  obtain ⟨v2, vs2, d2, ds2, p2, q2, rfl, rfl, rfl, h2, r2⟩ := trodAll_cons r1
  obtain ⟨v3, vs3, d3, ds3, p3, q3, rfl, rfl, rfl, h3, r3⟩ := trodAll_cons r2
  obtain ⟨rfl, rfl, rfl⟩ := trodAll_nil r3
  obtain rfl : args = #[v0, v1, v2, v3] := by cases args; simp_all
  obtain ⟨A0, c0, l0, rfl, m0, g0, _⟩ := open_graph (hval 0 _ v0 rfl rfl) h0 (fun x hx => hlt x (by simp [hx]))
  obtain ⟨x1, rfl, rfl, rfl, wx1⟩ := open_int Try.underlying3 (hval 1 _ v1 rfl rfl) h1
  obtain ⟨x2, rfl, rfl, rfl, wx2⟩ := open_int Try.underlying3 (hval 2 _ v2 rfl rfl) h2
  obtain ⟨x3, rfl, rfl, rfl⟩ := open_bool Try.underlying4 (hval 3 _ v3 rfl rfl) h3
  refine (lawLineSet l0 A0 c0 x1 x2 x3 m0 W g0).mono fun e W' ⟨he, hg⟩ => ?_
  subst he
  exact ⟨_, rfl, post_true rfl (by kernel_rfl) rfl (by kernel_rfl) hW' hA0 hg⟩
set_option maxRecDepth 100000 in
theorem lifted (os : Os) (started : os.Started) (H : Type) (enc : TypeId × Value → H) :
    ReturnsInHanded {} Try.checked os 5 .any (Rows.fnExactLineSetSpec.pre6 enc Try.prog Try.f5 Rows.fnExactLineSetRow.domain false) (Rows.fnExactLineSetSpec.post enc Try.prog Try.f5 false true false false) := by
  refine returnsInHanded_of_change (C := Try.checked) own_knob started (by kernel_rfl) Try.func5
    (ChangeSpec.witness6 (enc := enc) (C := Try.checked) false ⟨#[], #[.agg #[.slice none 0 0], .int .i64 0, .int .i64 0, .bool false], []⟩ 8 (by kernel_rfl) (by kernel_rfl) (by kernel_rfl) (by kernel_rfl)) ?_
  intro W base args ds gs before hval hW _ _
  exact contract H enc W base args ds gs before hval hW
end rowLineSet
theorem LineSet_holds : Rows.FnExactLineSetSaid :=
  OpenClaim.holds_of_wide 5 Try.f5 rfl rfl rfl rfl rfl rfl rfl ⟨rfl, rfl, rfl, rfl, rfl⟩ rfl rfl rfl rfl rfl (by kernel_rfl) Try.func5 (by kernel_rfl)
    (of_decide_eq_true (by kernel_rfl)) (by unfold Func.isWrapper; first | (rw [if_pos (by decide +kernel)]; kernel_rfl) | (rw [if_neg (by decide +kernel)]; exact ⟨rfl, rfl⟩))
    (fun os started H enc _ => rowLineSet.lifted os started H enc)
#print axioms LineSet_holds
end Go.Proofs.Ytiopnefdfhdmoaa

