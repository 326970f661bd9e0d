/- FnExactRowsOf: the program's RowsOf returns what the reference's returns, for all arguments. No conditions. -/
import Derived.Test.YtkehjajhocddoaaItem
import Derived.Test.YtkehjajhocddoaaRows2
import Derived.Test.YtkehjajhocddoaaRowG
import Derived.Deep.RegionHeld3
import Derived.Deep.DeepCutAuto
namespace Go.Proofs.Ytkehjajhocddoaa
open Go.ChangeShapes Go.WideShapes Go.ChangeAt Go.RowKit
theorem Iv.next {W W' : World} {lo hi : Nat} {v : Value} {L : List Int} (h : OwnI W lo hi v L) (hb : Below W.heap.size W W') : OwnI W' lo hi v L := h.below hb h.2.1
theorem Iv.far {W W' : World} {lo hi lo2 hi2 : Nat} {v v2 : Value} {L M : List Int} (h : OwnI W lo hi v L) (hO : OwnI W lo2 hi2 v2 M) (hg : W.grownBy W' v2.ownBlock) (q : hi ≤ lo2 ∨ hi2 ≤ lo) : OwnI W' lo hi v L := by
  have hlo : ∀ g, v2.ownBlock = some g → lo2 ≤ g ∧ g < hi2 := fun g hg => ⟨(hO.1.lt g hg).1, hO.2.2 g hg⟩
  exact h.grown hg fun g e => by have := hlo g e; omega
theorem Iv.rd {W : World} {lo hi n c : Nat} {A : Option Addr} {L : List Int} (h : OwnI W lo hi (.slice A n c) L) : RdI W W.heap.size A L := by
  obtain ⟨A', c', e, hr⟩ := OwnI.rd h
  injection e with e _ _
  subst e; exact hr
theorem below_drewN {w w' : World} (h : ∃ n, w' = w.drewN n) : Below w.heap.size w w' := by
  obtain ⟨n, rfl⟩ := h
  exact bdr (Below.refl _ _) n
set_option maxHeartbeats 2000000 in
theorem lawRowsOf (l : List Int) (A : Option Addr) (c : Nat) (hm : l.length ≤ maxLen) (w : World) (hr : RdI w w.heap.size A l) :
    Calls Try.prog 8 #[.agg #[.slice A l.length c]] w fun e w' => e = .returned (.bool true) ∧ Below w.heap.size w w' := by
  by_cases hl : l.length ≤ 1048576
  · have hS := specRowsOf l
    have hI := implRowsOf l
    have hlen : (Sw.toI (Sw.vRows l)).length ≤ 512 := by
      rw [Sw.toI_len]
      rcases Sw.gvB_cases l with hv | ⟨G, rfl, hG⟩
      · rw [Sw.vRows_no hv]; simp
      · rw [Sw.vRows_yes hG, Sw.tab_len]; have := hG.le; omega
    obtain ⟨L, hL⟩ : ∃ L, L = Sw.toI (Sw.vRows l) := ⟨_, rfl⟩
    have HS : Hid (∀ (A : Option Addr) (c : Nat) (w : World), RdI w w.heap.size A l → Calls Try.prog 26 #[.agg #[.slice A l.length c]] w fun e w' => ∃ v, e = .returned v ∧ OwnI w' w.heap.size w'.heap.size v L ∧ Below w.heap.size w w') := by
      intro A c w h; rw [hL]; exact hS A c (by omega) w h
    have HI : Hid (∀ (A : Option Addr) (c : Nat) (w : World), RdI w w.heap.size A l → Calls Try.prog 27 #[.agg #[.slice A l.length c]] w fun e w' => ∃ v, e = .returned v ∧ OwnI w' w.heap.size w'.heap.size v L ∧ Below w.heap.size w w') := by
      intro A c w h; rw [hL]; exact hI A c (by omega) w h
    rw [← hL] at hlen
    clear hL hS hI
    go_enter Try.func8, Try.ntmps8
    go_wp2_with fail
    refine (szGraph_yes A l.length c _ (by omega) (by omega) hm (by omega) _).mono ?_
    rintro e w1 ⟨rfl, hb⟩
    have hA := box_after hb
    have ha0 : Ar w w1 (.slice A l.length c) := hA
    obtain ⟨_, hc, hz⟩ := hA
    have HA := Lib.hid ha0
    clear hb ha0
    go_wp2_with fail
    refine (toGraph l A c hl _ (hr.at_ HA.out.1)).mono ?_
    rintro e w2 ⟨v1, rfl, ho1, hb2⟩
    have HA2 := Lib.hid (HA.out.next hb2)
    obtain ⟨_, hc, hz⟩ := HA2.out
    obtain ⟨A1, c1, rfl, hr1⟩ := ho1.rd
    clear HA ho1 hb2
    go_wp2_with fail
    refine (HS.out A1 c1 _ hr1).mono ?_
    rintro e w3 ⟨vS, rfl, hoS, hb3⟩
    obtain ⟨AS, cS, rfl, _⟩ := hoS.rd
    have HA3 := Lib.hid (HA2.out.next hb3)
    have X3 := Lib.hid hoS
    obtain ⟨_, hc, hz⟩ := HA3.out
    have s2 := HA2.out.2.2
    have s3 := hb3.size
    clear HA2 hoS hb3 hr1
    go_wp2_with fail
    refine (toGraph l A c hl _ (hr.at_ HA3.out.1)).mono ?_
    rintro e w4 ⟨v2, rfl, ho2, hb4⟩
    obtain ⟨A2, c2, rfl, hr2⟩ := ho2.rd
    have s4 := hb4.size
    have hb4' : Below w3.heap.size w3 (w4.alloc (.cells #[.slice A2 l.length c2] 27)) := hb4.trans ((below1 _).mono hb4.size)
    have HA4 := Lib.hid (HA3.out.next hb4')
    have X4 := Lib.hid (Iv.next X3.out hb4')
    have G4 := Lib.hid (It.new ho2 27)
    obtain ⟨_, hc, hz⟩ := HA4.out
    have hc12 := G4.out.1
    clear HA3 X3 ho2 hb4 hb4'
    go_wp2_with fail
    refine (HI.out A2 c2 _ (hr2.at_ (below1 _))).mono ?_
    rintro e w5 ⟨vI, rfl, hoI, hb5⟩
    obtain ⟨AI, cI, rfl, _⟩ := hoI.rd
    have s5 := hb5.size
    simp only [World.size_alloc] at s5
    have HA5 := Lib.hid (HA4.out.next hb5)
    have X5 := Lib.hid (Iv.next X4.out hb5)
    have G5 := Lib.hid (G4.out.next hb5)
    have Y5 := Lib.hid hoI
    obtain ⟨_, hc, hz⟩ := HA5.out
    have hc12 := G5.out.1
    clear HA4 X4 G4 hoI hb5 hr2
    go_wp2_with fail
    refine (eqIntS L AI AS cI cS (by omega) _ (Iv.rd Y5.out) (Iv.rd X5.out)).mono ?_
    rintro e w6 ⟨rfl, hn6⟩
    have hb6 := below_drewN hn6
    have HA6 := Lib.hid (HA5.out.next hb6)
    have X6 := Lib.hid (Iv.next X5.out hb6)
    have G6 := Lib.hid (G5.out.next hb6)
    have Y6 := Lib.hid (Iv.next Y5.out hb6)
    obtain ⟨_, hc, hz⟩ := HA6.out
    have hc12 := G6.out.1
    have hb12 := G6.out.2.1
    have hr2 := G6.out.rd
    have hra := hr.at_ HA6.out.1
    clear HA5 X5 G5 Y5 hb6 hn6
    go_wp2_with fail
    go_region_held3 (fun w' => w'.cell? ⟨w4.heap.size, 0, none⟩ = some (.slice A2 l.length c2) ∧ w'.cell? ⟨w.heap.size, 0, none⟩ = some (.slice A l.length c)) (first | exact ⟨hc12, hc⟩ | exact hS7 | exact hS6) (first | (go_at_call 11; refine (toGraph l A c hl _ (by exact hra)).mono ?_; rintro e w8 ⟨v3, rfl, ho3, hb8⟩; obtain ⟨A3, c3, rfl, hr3⟩ := ho3.rd; have hr2' := RdI.at_ (by exact hr2) hb8; have hS6 := And.intro ((hb8.cell (p := ⟨w4.heap.size, 0, none⟩) (by exact hb12)).trans (by exact hc12)) ((hb8.cell (p := ⟨w.heap.size, 0, none⟩) (by exact hz)).trans (by exact hc))) | (go_at_call 13; refine (eqGraph l A2 A3 c2 c3 hl _ (by exact hr2') (by exact hr3)).mono ?_; rintro e w7 ⟨rfl, hb7⟩; have hb67 := hb8.trans (hb7.mono hb8.size); have hS7 := And.intro ((hb67.cell (p := ⟨w4.heap.size, 0, none⟩) (by exact hb12)).trans (by exact hc12)) ((hb67.cell (p := ⟨w.heap.size, 0, none⟩) (by exact hz)).trans (by exact hc))))
    have hb67' : Below w6.heap.size w6 w7 := undrew hb67
    have HA7 := Lib.hid (HA6.out.next hb67')
    have X7 := Lib.hid (Iv.next X6.out hb67')
    have G7 := Lib.hid (G6.out.next hb67')
    have Y7 := Lib.hid (Iv.next Y6.out hb67')
    clear HA6 X6 G6 Y6 hb67 hb67' hS7 hS6 hr2' hr3 ho3 hb8 hb7 hr2 hra hc hz hc12 hb12
    obtain ⟨_, hc, hz⟩ := HA7.out
    have hc12 := G7.out.1
    go_wp2_with fail
    refine (markGraph l _ _ _ 1 hl (by decide) (by decide) _ G7.out.2.2).mono ?_
    rintro e w8 ⟨rfl, ho8, hg8⟩
    have HA8 := Lib.hid (HA7.out.far G7.out.2.2 hg8 (by (try simp only [World.size_alloc]); omega))
    have X8 := Lib.hid (Iv.far X7.out G7.out.2.2 hg8 (by (try simp only [World.size_alloc]); omega))
    have Y8 := Lib.hid (Iv.far Y7.out G7.out.2.2 hg8 (by (try simp only [World.size_alloc]); omega))
    clear HA7 X7 G7 Y7 ho8 hg8 hc12
    obtain ⟨_, hc, hz⟩ := HA8.out
    go_wp2_with fail
    refine (eqIntS L AI AS cI cS (by omega) _ (Iv.rd Y8.out) (Iv.rd X8.out)).mono ?_
    rintro e w9 ⟨rfl, hn9⟩
    have hb9 := below_drewN hn9
    have HA9 := Lib.hid (HA8.out.next hb9)
    have X9 := Lib.hid (Iv.next X8.out hb9)
    have Y9 := Lib.hid (Iv.next Y8.out hb9)
    clear HA8 X8 Y8 hb9 hn9
    obtain ⟨_, hc, hz⟩ := HA9.out
    go_wp2_with fail
    refine (markIntS L _ _ _ 1 (by omega) (by decide) (by decide) _ Y9.out).mono ?_
    rintro e w10 ⟨rfl, ho10, hg10⟩
    have HA10 := Lib.hid (HA9.out.far Y9.out hg10 (by (try simp only [World.size_alloc]); omega))
    have X10 := Lib.hid (Iv.far X9.out Y9.out hg10 (by (try simp only [World.size_alloc]); omega))
    have Y10 := Lib.hid ho10
    clear HA9 X9 Y9 ho10 hg10
    obtain ⟨_, hc, hz⟩ := HA10.out
    go_wp2_with fail
    refine (heldIntS L.length AI cI 1 (by omega) (by decide) (by decide) _ (Iv.rd Y10.out)).mono ?_
    rintro e w11 ⟨rfl, rfl⟩
    go_wp2_with fail
    refine (toGraph l A c hl _ (hr.at_ HA10.out.1)).mono ?_
    rintro e w12 ⟨v4, rfl, ho12, hb12⟩
    obtain ⟨A4, c4, rfl, hr4⟩ := ho12.rd
    have HA12 := Lib.hid (HA10.out.next hb12)
    have X12 := Lib.hid (Iv.next X10.out hb12)
    have Y12 := Lib.hid (Iv.next Y10.out hb12)
    clear HA10 X10 Y10 hb12 ho12
    obtain ⟨_, hc, hz⟩ := HA12.out
    go_wp2_with fail
    refine (HI.out A4 c4 _ hr4).mono ?_
    rintro e w13 ⟨v5, rfl, ho13, hb13⟩
    obtain ⟨A5, c5, rfl, hr5⟩ := ho13.rd
    have HA13 := Lib.hid (HA12.out.next hb13)
    have X13 := Lib.hid (Iv.next X12.out hb13)
    have Y13 := Lib.hid (Iv.next Y12.out hb13)
    clear HA12 X12 Y12 hb13 ho13
    go_wp2_with fail
    refine (eqIntS L A5 AS c5 cS (by omega) _ hr5 (Iv.rd X13.out)).mono ?_
    rintro e w14 ⟨rfl, hn14⟩
    have hb14 := below_drewN hn14
    have HA14 := Lib.hid (HA13.out.next hb14)
    have Y14 := Lib.hid (Iv.next Y13.out hb14)
    clear HA13 X13 Y13 hb14 hn14
    go_wp2_with fail
    refine (heldIntS L.length AI cI 1 (by omega) (by decide) (by decide) _ (Iv.rd Y14.out)).mono ?_
    rintro e w15 ⟨rfl, rfl⟩
    go_wp2_with fail
    go_ret
    exact ⟨rfl, HA14.out.1⟩
  · go_enter Try.func8, Try.ntmps8
    go_wp2_with fail
    refine (szGraph_no A l.length c _ (by omega) (by omega) hm (by omega) _).mono ?_
    rintro e w1 ⟨rfl, hb⟩
    obtain ⟨hb, hc, hz⟩ := box_after hb
    go_wp2_with fail
    go_ret
    exact ⟨rfl, hb⟩
namespace rowRowsOf
theorem contract (H : Type) (enc : TypeId × Value → H) (W : World) (base : Nat) (args : Array Value) (ds gs : List (DataW H)) (before : List MemPlace)
    (hval : ∀ (j : Nat) t v, Try.f8.params[j]? = some t → args[j]? = some v → Value.okWide Try.prog W .any base t v)
    (hW : DataW.Whole enc Try.prog Try.f8.params.toList Rows.fnExactRowsOfSpec.vars false W args.toList ds gs before) :
    Calls Try.prog 8 args W fun e W' => ∃ v, e = .returned v ∧ Rows.fnExactRowsOfSpec.post enc Try.prog Try.f8 false true false false W args v W' := by
  have hW' := hW
  obtain ⟨p, q, hA0, hV, rfl, _, _⟩ := hW
  obtain ⟨rfl, rfl⟩ := trodVars_none hV
  simp only [List.append_nil] at hW'
  have hlt : ∀ x ∈ p, x.block < W.heap.size := fun x hx => hW'.lt x hx
  have hA : DataW.TrodAll enc Try.prog W 0 (fun _ => true) true Try.f8.params.toList args.toList ds p := hA0
  rw [Try.params8] at hA hval
  obtain ⟨v0, vs0, d0, ds0, p0, q0, hargs, rfl, rfl, h0, r0⟩ := trodAll_cons hA
  obtain ⟨rfl, rfl, rfl⟩ := trodAll_nil r0
  obtain rfl : args = #[v0] := by cases args; simp_all
  obtain ⟨A0, c0, l0, rfl, m0, g0, _⟩ := open_graph (hval 0 _ v0 rfl rfl) h0 (fun x hx => hlt x (by simp [hx]))
  refine (lawRowsOf l0 A0 c0 m0 W g0).mono fun e W' ⟨he, hg⟩ => ?_
  subst he
  exact ⟨_, rfl, post_true rfl (by kernel_rfl) rfl (by kernel_rfl) hW' hA0 hg⟩
set_option maxRecDepth 100000 in
theorem lifted (os : Os) (started : os.Started) (H : Type) (enc : TypeId × Value → H) :
    ReturnsInHanded {} Try.checked os 8 .any (Rows.fnExactRowsOfSpec.pre6 enc Try.prog Try.f8 Rows.fnExactRowsOfRow.domain false) (Rows.fnExactRowsOfSpec.post enc Try.prog Try.f8 false true false false) := by
  refine returnsInHanded_of_change (C := Try.checked) own_knob started (by kernel_rfl) Try.func8
    (ChangeSpec.witness6 (enc := enc) (C := Try.checked) false ⟨#[], #[.agg #[.slice none 0 0]], []⟩ 8 (by kernel_rfl) (by kernel_rfl) (by kernel_rfl) (by kernel_rfl)) ?_
  intro W base args ds gs before hval hW _ _
  exact contract H enc W base args ds gs before hval hW
end rowRowsOf
theorem RowsOf_holds : Rows.FnExactRowsOfSaid :=
  OpenClaim.holds_of_wide 8 Try.f8 rfl rfl rfl rfl rfl rfl rfl ⟨rfl, rfl, rfl, rfl, rfl⟩ rfl rfl rfl rfl rfl (by kernel_rfl) Try.func8 (by kernel_rfl)
    (of_decide_eq_true (by kernel_rfl)) (by unfold Func.isWrapper; first | (rw [if_pos (by decide +kernel)]; kernel_rfl) | (rw [if_neg (by decide +kernel)]; exact ⟨rfl, rfl⟩))
    (fun os started H enc _ => rowRowsOf.lifted os started H enc)
#print axioms RowsOf_holds
end Go.Proofs.Ytkehjajhocddoaa

