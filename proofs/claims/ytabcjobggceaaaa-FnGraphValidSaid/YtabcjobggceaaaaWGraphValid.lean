/- FnGraphValid: graphs may have no lines. No conditions. -/
import Derived.Test.YtabcjobggceaaaaLw
import Derived.Test.YtabcjobggceaaaaMath7
import Derived.Test.YtabcjobggceaaaaRank2
import Derived.Deep.RegionHeld3
import Derived.Deep.DeepCutAuto
namespace Go.Proofs.Ytabcjobggceaaaa
open Go.ChangeShapes Go.WideShapes Go.ChangeAt Go.RowKit
theorem OwnI.rd' {w : World} {lo hi n c : Nat} {A : Option Addr} {l : List Int} (h : OwnI w lo hi (.slice A n c) l) : RdI w w.heap.size A l := by
  obtain ⟨A', c', e, hr⟩ := h.rd
  injection e with e _ _
  subst e
  exact hr
theorem own_at {w : World} {lo hi g n c : Nat} {l : List Int} (h : OwnI w lo hi (.slice (some ⟨g, 0, none⟩) n c) l) (hl : 0 < l.length) : lo ≤ g ∧ g < hi ∧ w.cell? ⟨g, 0, none⟩ = some (.int .i64 (Sw.gat l 0)) ∧ w.frozen? ⟨g, 0, none⟩ = false := by
  obtain ⟨g', c', e, h1, h2, h4⟩ := h.form hl
  injection e with e _ _
  injection e with e
  injection e with e _ _
  subst e
  exact ⟨h1, h2, h4 0 hl⟩
/-- the copied row, before and after the store into its first cell -/
theorem Gz.start {w W W2 : World} {b c1 g cap : Nat} {ad : Addr} {G : List Nat} {x0 : Nat} {t : TypeId} (h : Lg w W b ad c1 G) (hown : W2.ownsRow W.heap.size 3 1 (.slice (some ⟨g, 0, none⟩) G.length cap) G.length (ints (Sw.toI G))) (hgrow : (W.alloc (.cells #[] t)).grownBy W2 (some W.heap.size)) (hl : 0 < (Sw.toI G).length) (hg0 : Sw.gat (Sw.toI G) 0 = (x0 : Int)) :
    (W2.cell? ⟨g, 0, none⟩ = some (.int .i64 (x0 : Nat)) ∧ W2.frozen? ⟨g, 0, none⟩ = false ∧ (W2.setCell ⟨g, 0, none⟩ (.int .i64 ((x0 : Int) + 1))).cell? ⟨b, 0, none⟩ = some (.slice (some ad) G.length c1)) ∧
    Lg w (W2.setCell ⟨g, 0, none⟩ (.int .i64 ((x0 : Int) + 1))) b ad c1 G ∧ RdI (W2.setCell ⟨g, 0, none⟩ (.int .i64 ((x0 : Int) + 1))) (W2.setCell ⟨g, 0, none⟩ (.int .i64 ((x0 : Int) + 1))).heap.size (some ⟨g, 0, none⟩) ((Sw.toI G).set 0 ((x0 : Int) + 1)) := by
  have hO : OwnI W2 W.heap.size W2.heap.size (.slice (some ⟨g, 0, none⟩) (Sw.toI G).length cap) (Sw.toI G) := OwnI.own (by rw [Sw.toI_len]; exact hown)
  obtain ⟨h1, h2, h3, h4⟩ := own_at hO hl
  rw [hg0] at h3
  have hb2 : Below W.heap.size W W2 := (below1 _).trans (below_of_grown hgrow (by simp) (fun g h => by injection h with h; omega))
  have hg2 : W2.grownBy (W2.setCell ⟨g, 0, none⟩ (.int .i64 ((x0 : Int) + 1))) (some g) := ⟨rfl, rfl, rfl, by simp [World.setCell], fun j _ hj => Below.heap_setCell _ _ _ _ (fun e => hj (by rw [e]))⟩
  have hb3 := hb2.trans (below_of_grown (B := W.heap.size) hg2 hb2.size (fun q e => by injection e with e; omega))
  have hL := h.next hb3
  have hs := hO.set 0 ((x0 : Int) + 1)
  exact ⟨⟨h3, h4, hL.2.1⟩, hL, hs.1.rd'⟩
set_option maxHeartbeats 2000000 in
theorem lawGraphValid (A : Option Addr) (n c : Nat) (hm : n ≤ maxLen) (hc : n ≤ c) (w : World) (hB : RdB w w.heap.size A n) :
    Calls Try.prog 3 #[.slice A n c] w fun e w' => e = .returned (.bool true) ∧ Below w.heap.size w w' := by
  unfold maxLen at hm
  by_cases hlen : (n : Int) ≤ 1048576
  · go_enter Try.func3, Try.ntmps3
    go_wp2_with fail
    refine (drawGraphValid A n c (by omega) hc _ hB).mono ?_
    rintro e w1 ⟨A1, c1, l, rfl, h10, hr, hb⟩
    have HL := Lib.hid (Lw.start (c1 := c1) hr hb 25)
    clear hr hb
    rcases Sw.gvB_cases l with hv | ⟨G, rfl, hG⟩
    · have hI := fun W => implGraphValid_no l A1 c1 (by omega) hv W
      have hS := fun W => specGraphValid_no l A1 c1 (by omega) hv W
      have hE := fun W => implGraphValid_no [] none 0 (by simp) Sw.gvB_nil W
      obtain ⟨_, hcb, hzb, hrb⟩ := HL.out
      go_wp2_with fail
      refine (hI _ hrb).mono ?_
      rintro e w15 ⟨rfl, hb15⟩
      have HL := Lib.hid (HL.out.next hb15)
      clear hcb hzb hrb hb15
      obtain ⟨_, hcb, hzb, hrb⟩ := HL.out
      go_wp2_with fail
      refine (hS _ hrb).mono ?_
      rintro e w16 ⟨rfl, hb16⟩
      have HL := Lib.hid (HL.out.next hb16)
      clear hcb hzb hrb hb16
      obtain ⟨_, hcb, hzb, hrb⟩ := HL.out
      go_wp2_with fail
      refine (hE _ (fun k hk => by simp at hk)).mono ?_
      rintro e w17 ⟨rfl, hb17⟩
      have HL := Lib.hid (HL.out.next hb17)
      clear hcb hzb hrb hb17
      obtain ⟨_, hcb, hzb, hrb⟩ := HL.out
      go_wp2_with fail
      refine (alive _).mono ?_
      rintro e w18 ⟨rfl, hb18⟩
      have HL := Lib.hid (HL.out.next hb18)
      clear hcb hzb hrb hb18
      obtain ⟨_, hcb, hzb, hrb⟩ := HL.out
      go_wp2_with fail
      go_ret
      exact ⟨rfl, HL.out.1⟩
    · obtain ⟨ad, rfl, hL⟩ := HL.out.valid hG
      have HL := Lib.hid hL
      have hn9 := hG.le
      have hn1 := hG.pos
      clear hL
      rw [Sw.toI_len] at HL h10 ⊢
      have hI := fun W h => implGV G hG ad c1 W h
      have hS := fun W h => specGV G hG ad c1 W h
      have hZ := fun A c W h => implGraphValid_yes (List.replicate G.length 0) A c (by rw [List.length_replicate]; omega) (by rw [← Sw.toI_zeros]; exact Sw.gvB_yes (Sw.zeros_valid hn1 hn9)) W h
      have hX := fun A c W h => implGraphValid_no ((Sw.toI G).set 0 (Sw.gat (Sw.toI G) 0 + 1)) A c (by rw [List.length_set, Sw.toI_len]; omega) (Sw.gvB_self hG) W h
      rw [List.length_replicate] at hZ
      rw [List.length_set, Sw.toI_len, Sw.gat_toI] at hX
      have hx0 : Sw.nb G 0 < 512 := Nat.lt_of_lt_of_le (hG.lt 0) (Sw.pow_le9 hn9)
      obtain ⟨i0, hi, hz0, hz1, hz2⟩ := info_parts info_int
      obtain ⟨_, hcb, hzb, hrb⟩ := HL.out
      go_wp2_with fail
      refine (hI _ hrb).mono ?_
      rintro e w19 ⟨rfl, hb19⟩
      have HL := Lib.hid (HL.out.next hb19)
      clear hcb hzb hrb hb19
      obtain ⟨_, hcb, hzb, hrb⟩ := HL.out
      go_wp2_with fail
      refine (hS _ hrb).mono ?_
      rintro e w20 ⟨rfl, hb20⟩
      have HL := Lib.hid (HL.out.next hb20)
      clear hcb hzb hrb hb20
      obtain ⟨_, hcb, hzb, hrb⟩ := HL.out
      obtain ⟨W, hW⟩ : ∃ W, W = w20 := ⟨_, rfl⟩
      rw [← hW] at HL hcb hzb hrb ⊢
      clear hW
      obtain ⟨x0, hx0e⟩ : ∃ x0, x0 = Sw.nb G 0 := ⟨_, rfl⟩
      have hg0 : Sw.gat (Sw.toI G) 0 = (x0 : Int) := by rw [Sw.gat_toI, hx0e]
      rw [← hx0e] at hX hx0
      clear hx0e
      have hl9 : (Sw.toI G).length ≤ 1048576 := by rw [Sw.toI_len]; omega
      have hlp : 0 < (Sw.toI G).length := by rw [Sw.toI_len]; exact hn1
      have hxw : IntKind.i64.wrap ((x0 : Int) + 1) = (x0 : Int) + 1 := IntWalk.i64_in _ (by omega)
      go_wp2_with (first | (at_builtin; go_loud (refine wpList_copy rfl _ _ rfl hi hz0 hz1 hz2 (l := Sw.toI G) (hrb.toI.at_ (below1 _)) hl9 (World.ownsRow_lit W #[] 0 (Nat.le_refl _) (by unfold maxLen; omega) rfl) (by simp) rfl G.length (Sw.toI_len G) rfl ?_); intro g cap W2 hown hgrow; go_loud (have HG := Lib.hid (Gz.start HL.out hown hgrow hlp hg0)); obtain ⟨hgc, hgf, hcb3⟩ := HG.out.1) | (at_make; go_loud (refine wpList_make_full _ rfl _ _ 23 rfl W2.heap.size 3 i0 (.int .i64 0) 1 Try.underlying23 hi hz0 hz1 .i64 .i64 _ _ G.length rfl rfl rfl rfl (by rw [hz2]; omega) (by unfold maxLen; omega) (by simp [World.setCell]) ?_); intro W4 hown4 hgrow4))
      have hb4 := below_of_grown hgrow4 (Nat.le_refl _) (fun g h => by cases h)
      have hse : (W2.setCell ⟨g, 0, none⟩ (.int .i64 ((x0 : Int) + 1))).heap.size = W2.heap.size := by simp [World.setCell]
      rw [hse] at hown4
      have hr4 := OwnI.rd' (made_ints hown4)
      have HR := Lib.hid (RdI.at_ HG.out.2.2 hb4)
      have HL := Lib.hid (HG.out.2.1.next hb4)
      clear hown4 hgrow4 hb4 hse hcb3 hgc hgf HG hown hgrow
      go_wp2_with fail
      refine (hZ _ _ _ hr4).mono ?_
      rintro e w20 ⟨rfl, hb20⟩
      have HL := Lib.hid (HL.out.next hb20)
      have HR := Lib.hid (RdI.at_ HR.out hb20)
      clear hb20 hr4
      go_wp2_with fail
      refine (hX _ _ _ HR.out).mono ?_
      rintro e w21 ⟨rfl, hb21⟩
      have HL := Lib.hid (HL.out.next hb21)
      go_wp2_with fail
      go_ret
      exact ⟨rfl, HL.out.1⟩
  · go_enter Try.func3, Try.ntmps3
    go_wp2_with fail
    go_ret
    exact ⟨rfl, Below.refl _ _⟩
namespace rowGraphValid
theorem contract (H : Type) (enc : TypeId × Value → H) (W : World) (base : Nat) (args : Array Value) (ds gs : List (DataW H)) (before : List MemPlace)
    (hval : ∀ (j : Nat) t v, Try.f3.params[j]? = some t → args[j]? = some v → Value.okWide Try.prog W .any base t v)
    (hW : DataW.Whole enc Try.prog Try.f3.params.toList Rows.fnGraphValidSpec.vars false W args.toList ds gs before) :
    Calls Try.prog 3 args W fun e W' => ∃ v, e = .returned v ∧ Rows.fnGraphValidSpec.post enc Try.prog Try.f3 false true false false W args v W' := by
  have hW' := hW
  obtain ⟨p, q, hA0, hV, rfl, _, _⟩ := hW
  obtain ⟨rfl, rfl⟩ := trodVars_none hV
  simp only [List.append_nil] at hW'
  have hlt : ∀ x ∈ p, x.block < W.heap.size := fun x hx => hW'.lt x hx
  have hA : DataW.TrodAll enc Try.prog W 0 (fun _ => true) true Try.f3.params.toList args.toList ds p := hA0
  rw [Try.params3] at hA hval
  obtain ⟨v0, vs0, d0, ds0, p0, q0, hargs, rfl, rfl, h0, r0⟩ := trodAll_cons hA
  obtain ⟨rfl, rfl, rfl⟩ := trodAll_nil r0
  obtain rfl : args = #[v0] := by cases args; simp_all
  obtain ⟨A0, n0, c0, rfl, m0, k0, g0⟩ := open_bytes (hval 0 _ v0 rfl rfl) h0 (fun x hx => hlt x (by simp [hx]))
  refine (lawGraphValid A0 n0 c0 m0 k0 W g0).mono fun e W' ⟨he, hg⟩ => ?_
  subst he
  exact ⟨_, rfl, post_true rfl (by kernel_rfl) rfl (by kernel_rfl) hW' hA0 hg⟩
set_option maxRecDepth 100000 in
theorem lifted (os : Os) (started : os.Started) (H : Type) (enc : TypeId × Value → H) :
    ReturnsInHanded {} Try.checked os 3 .any (Rows.fnGraphValidSpec.pre6 enc Try.prog Try.f3 Rows.fnGraphValidRow.domain false) (Rows.fnGraphValidSpec.post enc Try.prog Try.f3 false true false false) := by
  refine returnsInHanded_of_change (C := Try.checked) own_knob started (by kernel_rfl) Try.func3
    (ChangeSpec.witness6 (enc := enc) (C := Try.checked) false ⟨#[], #[.slice none 0 0], []⟩ 8 (by kernel_rfl) (by kernel_rfl) (by kernel_rfl) (by kernel_rfl)) ?_
  intro W base args ds gs before hval hW _ _
  exact contract H enc W base args ds gs before hval hW
end rowGraphValid
theorem GraphValid_holds : Rows.FnGraphValidSaid :=
  OpenClaim.holds_of_wide 3 Try.f3 rfl rfl rfl rfl rfl rfl rfl ⟨rfl, rfl, rfl, rfl, rfl⟩ rfl rfl rfl rfl rfl (by kernel_rfl) Try.func3 (by kernel_rfl)
    (of_decide_eq_true (by kernel_rfl)) (by unfold Func.isWrapper; first | (rw [if_pos (by decide +kernel)]; kernel_rfl) | (rw [if_neg (by decide +kernel)]; exact ⟨rfl, rfl⟩))
    (fun os started H enc _ => rowGraphValid.lifted os started H enc)
#print axioms GraphValid_holds
end Go.Proofs.Ytabcjobggceaaaa

