/- FnOutMany: what can be put out and what is quiet belong together. No conditions. -/
import Derived.Test.YtooohgjmomhjoaaLw
import Derived.Test.YtooohgjmomhjoaaOy
import Derived.Test.YtooohgjmomhjoaaQs
import Derived.Test.YtooohgjmomhjoaaMath9
import Derived.Deep.RegionHeld3
import Derived.Deep.DeepCutAuto
namespace Go.Proofs.Ytooohgjmomhjoaa
open Go.ChangeShapes Go.WideShapes Go.ChangeAt Go.RowKit
set_option maxHeartbeats 2000000 in
theorem lawOutMany (A : Option Addr) (n c : Nat) (hm : n ≤ maxLen) (hc : n ≤ c) (w : World) (hB : RdB w w.heap.size A n) :
    Calls Try.prog 4 #[.slice A n c] w fun e w' => e = .returned (.bool true) ∧ Below w.heap.size w w' := by
  unfold maxLen at hm
  by_cases hlen : (n : Int) ≤ 1048576
  · go_enter Try.func4, Try.ntmps4
    go_wp2_with fail
    refine (drawOutMany A n c (by omega) hc _ hB).mono ?_
    rintro e w1 ⟨A1, c1, l, rfl, h10, hr, hb⟩
    have HL := Lib.hid (Lw.start (c1 := c1) hr hb 25)
    clear hr hb
    rcases Sw.gvB_cases l with hv | ⟨G, rfl, hG⟩
    · have hV := Sw.vOutMany_no hv
      have hI := fun W => implOutMany l A1 c1 (by omega) W
      have hS := fun W => specOutMany l A1 c1 (by omega) W
      rw [hV] at hI hS
      clear hV
      obtain ⟨_, hcb, hzb, hrb⟩ := HL.out
      go_wp2_with fail
      refine (hI _ hrb).mono ?_
      rintro e w2 ⟨rfl, hb2⟩
      have HL := Lib.hid (HL.out.next hb2)
      clear hcb hzb hrb hb2
      obtain ⟨_, hcb, hzb, hrb⟩ := HL.out
      go_wp2_with fail
      refine (hS _ hrb).mono ?_
      rintro e w3 ⟨rfl, hb3⟩
      have HL := Lib.hid (HL.out.next hb3)
      clear hcb hzb hrb hb3
      obtain ⟨_, hcb, hzb, hrb⟩ := HL.out
      go_wp2_with fail
      refine (implGraphValid_no l A1 c1 (by omega) hv _ hrb).mono ?_
      rintro e w4 ⟨rfl, hb4⟩
      have HL := Lib.hid (HL.out.next hb4)
      clear hcb hzb hrb hb4
      obtain ⟨_, hcb, hzb, hrb⟩ := HL.out
      go_wp2_with fail
      refine (alive _).mono ?_
      rintro e w5 ⟨rfl, hb5⟩
      have HL := Lib.hid (HL.out.next hb5)
      clear hcb hzb hrb hb5
      obtain ⟨_, hcb, hzb, hrb⟩ := HL.out
      go_wp2_with fail
      go_ret
      exact ⟨rfl, HL.out.1⟩
    · obtain ⟨ad, rfl, hL⟩ := HL.out.valid hG
      have HL := Lib.hid hL
      have hn9 := hG.le
      have hI := fun W h => implOutMany (Sw.toI G) (some ad) c1 (by rw [Sw.toI_len]; omega) W h
      have hS := fun W h => specOutMany (Sw.toI G) (some ad) c1 (by rw [Sw.toI_len]; omega) W h
      have hQ := fun W h => implQuietSets (Sw.toI G) (some ad) c1 (by rw [Sw.toI_len]; omega) W h
      rw [Sw.vOutMany_yes hG] at hI hS
      rw [Sw.vQs_yes hG] at hQ
      rw [Sw.toI_len] at hI hS hQ
      have hRQ := Sw.out_quiet hG
      have hP1 := Nat.pow_pos (n := G.length) (Nat.zero_lt_succ 1)
      have hP9 := Sw.pow_le9 hn9
      have hpw := pow_nat G.length
      obtain ⟨R, hR⟩ : ∃ R, R = 2 ^ Sw.rank G.length (Sw.row G) := ⟨_, rfl⟩
      have hR1 : 0 < R := by rw [hR]; exact Nat.pow_pos (by omega)
      obtain ⟨L, hL⟩ : ∃ L, L = Sw.toI (Sw.qs G) := ⟨_, rfl⟩
      have hLl : L.length = (Sw.qs G).length := by rw [hL, Sw.toI_len]
      rw [← hR] at hI hS hRQ
      rw [← hL] at hQ
      rw [← hLl] at hRQ
      obtain ⟨P, hP⟩ : ∃ P, P = 2 ^ G.length := ⟨_, rfl⟩
      rw [← hP] at hRQ hP1 hP9 hpw
      have hmul : (R : Int) * (L.length : Int) = (P : Int) := by rw [← hRQ, Int.natCast_mul]
      have hR9 : R ≤ 512 := by
        rcases Nat.eq_zero_or_pos L.length with h | h
        · rw [h] at hRQ; omega
        · have := Nat.le_mul_of_pos_right R h; omega
      have hw1 : IntKind.i64.wrap ((R : Int) * (L.length : Int)) = (P : Int) := by rw [hmul]; exact IntWalk.i64_in _ (by omega)
      have hw2 : IntKind.i64.wrap ((2 : Int) ^ G.length) = (P : Int) := by rw [hpw]; exact IntWalk.i64_in _ (by omega)
      have hl9 : L.length ≤ 512 := by have := Nat.le_mul_of_pos_left L.length hR1; omega
      have hneg : ¬ ((R : Int) < 0) := by omega
      clear hR hL hLl hRQ hpw hmul hP hP1
      obtain ⟨_, hcb, hzb, hrb⟩ := HL.out
      go_wp2_with fail
      refine (hI _ hrb.toI).mono ?_
      rintro e w6 ⟨rfl, hb6⟩
      have HL := Lib.hid (HL.out.next hb6)
      clear hcb hzb hrb hb6
      obtain ⟨_, hcb, hzb, hrb⟩ := HL.out
      go_wp2_with fail
      refine (hS _ hrb.toI).mono ?_
      rintro e w7 ⟨rfl, hb7⟩
      have HL := Lib.hid (HL.out.next hb7)
      clear hcb hzb hrb hb7
      obtain ⟨_, hcb, hzb, hrb⟩ := HL.out
      go_wp2_with fail
      go_region_held3 (fun w' => w'.cell? ⟨w1.heap.size, 0, none⟩ = some (.slice (some ad) G.length c1)) (first | exact hcb | exact hS_K1) (first | (go_at_call 16; refine (hQ _ (by exact hrb.toI)).mono ?_; rintro e Y1 ⟨v2, rfl, hO2, z1⟩; obtain ⟨A2, c2, rfl, hr3⟩ := hO2.rd; have K1 := Lib.hid (HL.out.next (undrew (by exact z1))); have hS_K1 := K1.out.2.1))
      have HL := K1
      clear hcb hzb hrb hS_K1 hO2 hr3 z1
      go_wp2_with fail
      go_ret
      exact ⟨rfl, HL.out.1⟩
  · go_enter Try.func4, Try.ntmps4
    go_wp2_with fail
    go_ret
    exact ⟨rfl, Below.refl _ _⟩
namespace rowOutMany
theorem contract (H : Type) (enc : TypeId × Value → H) (W : World) (base : Nat) (args : Array Value) (ds gs : List (DataW H)) (before : List MemPlace)
    (hval : ∀ (j : Nat) t v, Try.f4.params[j]? = some t → args[j]? = some v → Value.okWide Try.prog W .any base t v)
    (hW : DataW.Whole enc Try.prog Try.f4.params.toList Rows.fnOutManySpec.vars false W args.toList ds gs before) :
    Calls Try.prog 4 args W fun e W' => ∃ v, e = .returned v ∧ Rows.fnOutManySpec.post enc Try.prog Try.f4 false true false false W args v W' := by
  have hW' := hW
  obtain ⟨p, q, hA0, hV, rfl, _, _⟩ := hW
  obtain ⟨rfl, rfl⟩ := trodVars_none hV
  simp only [List.append_nil] at hW'
  have hlt : ∀ x ∈ p, x.block < W.heap.size := fun x hx => hW'.lt x hx
  have hA : DataW.TrodAll enc Try.prog W 0 (fun _ => true) true Try.f4.params.toList args.toList ds p := hA0
  rw [Try.params4] at hA hval
  obtain ⟨v0, vs0, d0, ds0, p0, q0, hargs, rfl, rfl, h0, r0⟩ := trodAll_cons hA
  obtain ⟨rfl, rfl, rfl⟩ := trodAll_nil r0
  obtain rfl : args = #[v0] := by cases args; simp_all
  obtain ⟨A0, n0, c0, rfl, m0, k0, g0⟩ := open_bytes (hval 0 _ v0 rfl rfl) h0 (fun x hx => hlt x (by simp [hx]))
  refine (lawOutMany A0 n0 c0 m0 k0 W g0).mono fun e W' ⟨he, hg⟩ => ?_
  subst he
  exact ⟨_, rfl, post_true rfl (by kernel_rfl) rfl (by kernel_rfl) hW' hA0 hg⟩
set_option maxRecDepth 100000 in
theorem lifted (os : Os) (started : os.Started) (H : Type) (enc : TypeId × Value → H) :
    ReturnsInHanded {} Try.checked os 4 .any (Rows.fnOutManySpec.pre6 enc Try.prog Try.f4 Rows.fnOutManyRow.domain false) (Rows.fnOutManySpec.post enc Try.prog Try.f4 false true false false) := by
  refine returnsInHanded_of_change (C := Try.checked) own_knob started (by kernel_rfl) Try.func4
    (ChangeSpec.witness6 (enc := enc) (C := Try.checked) false ⟨#[], #[.slice none 0 0], []⟩ 8 (by kernel_rfl) (by kernel_rfl) (by kernel_rfl) (by kernel_rfl)) ?_
  intro W base args ds gs before hval hW _ _
  exact contract H enc W base args ds gs before hval hW
end rowOutMany
theorem OutMany_holds : Rows.FnOutManySaid :=
  OpenClaim.holds_of_wide 4 Try.f4 rfl rfl rfl rfl rfl rfl rfl ⟨rfl, rfl, rfl, rfl, rfl⟩ rfl rfl rfl rfl rfl (by kernel_rfl) Try.func4 (by kernel_rfl)
    (of_decide_eq_true (by kernel_rfl)) (by unfold Func.isWrapper; first | (rw [if_pos (by decide +kernel)]; kernel_rfl) | (rw [if_neg (by decide +kernel)]; exact ⟨rfl, rfl⟩))
    (fun os started H enc _ => rowOutMany.lifted os started H enc)
#print axioms OutMany_holds
end Go.Proofs.Ytooohgjmomhjoaa

