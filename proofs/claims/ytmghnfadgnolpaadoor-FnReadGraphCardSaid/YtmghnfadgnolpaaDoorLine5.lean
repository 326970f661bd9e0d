/- LineSet of the reference, a line struck, by its contract. No conditions. -/
import Derived.Test.YtmghnfadgnolpaaDoorLine3
namespace Go.Proofs.YtmghnfadgnolpaaDoor
open Go.RowKit
set_option maxRecDepth 100000 in
set_option maxHeartbeats 2000000 in
theorem specLine_off (G : List Nat) (hG : Sw.GVN G) (A : Option Addr) (c : Nat) (a b : Nat) (ha : a < G.length) (hb : b < G.length) (hab : a ≠ b)  (w : World) (hr : RdI w w.heap.size A (Sw.toI G)) (hp : (Sw.nb G a).testBit b = true) :
    Calls Tryd.prog 31 #[.agg #[.slice A G.length c], .int .i64 a, .int .i64 b, .bool false] w fun e w' => ∃ v, e = .returned (.tuple #[.agg #[v], .bool true]) ∧ OwnI w' w.heap.size w'.heap.size v (Sw.toI (Sw.tab G.length (Sw.lineF (Sw.nb G) a b false))) ∧ Below w.heap.size w w' := by
  obtain ⟨ad, rfl, hrg⟩ := RdG.of hG hr
  have HG := Lib.hid hG
  have h9 := hG.le
  have hlt := hG.lt
  have Hsym := Lib.hid (hG.sym a b)
  clear hG
  have hca : Sw.nb G a < 512 := Nat.lt_of_lt_of_le (hlt a) (Sw.pow29' h9)
  have hcb : Sw.nb G b < 512 := Nat.lt_of_lt_of_le (hlt b) (Sw.pow29' h9)
  have hwa : IntKind.i64.wrap ((2 : Int) ^ a) = 2 ^ a := IntWalk.i64_in _ (by have := pow9 (n := a) (by omega); have := pow1 a; omega)
  have hwb : IntKind.i64.wrap ((2 : Int) ^ b) = 2 ^ b := IntWalk.i64_in _ (by have := pow9 (n := b) (by omega); have := pow1 b; omega)
  have hpa : (2 : Int) ^ a ≤ 512 := pow9 (by omega)
  have hpa1 := pow1 a
  have hpb : (2 : Int) ^ b ≤ 512 := pow9 (by omega)
  have hpb1 := pow1 b
  have hqa : (2 : Nat) ^ a < 1099511627776 := Nat.lt_of_le_of_lt (Nat.pow_le_pow_right (n := 2) (i := a) (j := 9) (by decide) (by omega)) (by decide)
  have hqb : (2 : Nat) ^ b < 1099511627776 := Nat.lt_of_le_of_lt (Nat.pow_le_pow_right (n := 2) (i := b) (j := 9) (by decide) (by omega)) (by decide)
  have hx1 := fun W => l1Other (Sw.nb G a) (2 ^ b) (by omega) hqb W
  have hx2 := fun W => l1Other (Sw.nb G b) (2 ^ a) (by omega) hqa W
  rw [← pow_nat] at hx1 hx2
  have HX1 := Lib.hid hx1
  have HX2 := Lib.hid hx2
  clear hx1 hx2 hqa hqb
  have hd1 : decide (a = b) = false := by rw [decide_eq_false_iff_not]; exact hab
  have hd3 : ((a : Int) == (b : Int)) = false := by rw [beq_nat]; exact hd1
  have hd2 : ¬ (a : Int) = (b : Int) := by omega
  obtain ⟨i0, hi, hz0, hz1, hz2⟩ := info_parts info_int
  go_enter Tryd.func31, Tryd.ntmps31
  go_wp2_with fail
  refine (specGV G HG.out ad c _ (hrg.at_ (below2 _ _))).mono ?_
  rintro e w1 ⟨rfl, hb1⟩
  obtain ⟨hb1, hz1', hc0, hc1, hf1⟩ := box2_after hb1
  go_wp2_with fail
  refine (l1In_yes _ _ _ _ (by omega) (by omega)).mono ?_
  rintro e w' ⟨rfl, rfl⟩
  go_wp2_with fail
  refine (l1In_yes _ _ _ _ (by omega) (by omega)).mono ?_
  rintro e w' ⟨rfl, rfl⟩
  have hrw := (hrg.at_ hb1).toI
  have hz0' : w.heap.size < w1.heap.size := by omega
  have hcA := ((below1 (w := w1) (.cells #[] 3)).cell (p := ⟨w.heap.size, 0, none⟩) hz0').trans hc0
  go_wp2_with (at_builtin; go_loud (refine wpList_copy rfl _ _ rfl hi hz0 hz1 hz2 (hrw.at_ (below1 _)) (by rw [Sw.toI_len]; omega) (World.ownsRow_lit w1 #[] 0 (Nat.le_refl _) (by unfold maxLen; omega) rfl) (by simp) rfl G.length (Sw.toI_len G) rfl ?_); intro g cap w2 hown hgrow; obtain ⟨hbb, hsz2, hkeep⟩ := copy_keeps hgrow hb1; have hc0 := hkeep _ _ (by omega) hc0; have hrg2 := hrg.at_ hbb; have hca2 := hrg2.cell a ha; have had := hrg2.blk; have hlow : w.heap.size < w2.heap.size := (by omega); go_loud (have hcX := ((below1 (w := w2) (.cells #[.slice (some ⟨g, 0, none⟩) G.length cap] 25)).cell (p := ad.add a) (Nat.lt_of_le_of_lt (Nat.le_of_eq (add_block ad a)) had)).trans hca2))
  have HS := Lib.hid (SL.start (t2 := 25) hz1' hb1 hc1 hf1 hown hgrow)
  have hB := l1Bit (Sw.nb G a) b (by omega) (by omega) (w2.alloc (.cells #[.slice (some ⟨g, 0, none⟩) G.length cap] 25))
  clear hown hgrow hkeep hbb hrg2 hc0 hc1 hf1 hb1 hi hz0 hz1 hz2 hrw hca2
  have hp2 : (Sw.nb G b).testBit a = true := Hsym.out.trans hp
  have HE : Hid ((fun j => if j = b then Sw.nb G b ^^^ 2 ^ a else (fun j => if j = a then Sw.nb G a ^^^ 2 ^ b else Sw.nb G j) j) = Sw.lineF (Sw.nb G) a b false) := by
    have e1 : Sw.setBit (Sw.nb G b) a false = Sw.nb G b ^^^ 2 ^ a := by unfold Sw.setBit; rw [hp2]; rfl
    have e2 : Sw.setBit (Sw.nb G a) b false = Sw.nb G a ^^^ 2 ^ b := by unfold Sw.setBit; rw [hp]; rfl
    funext k; unfold Sw.lineF; rw [e1, e2]
  rw [show Sw.bit (Sw.nb G a) b = 1 by rw [Sw.bit_eq, hp]; rfl] at hB
  clear hp hp2
  obtain ⟨hck, hfk⟩ := HS.out.cells a ha
  have hcx := HS.out.2.2.2.2.1
  refine hB.mono ?_
  rintro e w' ⟨rfl, rfl⟩
  clear hB
  go_wp2_with fail
  go_region_with (go_at_call 38; refine (HX1.out _).mono ?_; rintro e w' ⟨rfl, rfl⟩)
  all_goals
    refine then_on (fun W => SL w W g cap w2.heap.size G.length (fun j => if j = a then Sw.nb G a ^^^ 2 ^ b else Sw.nb G j)) (HS.out.put a _ _ rfl) ?_
    intro w4 hL4
    have hba : ¬ b = a := fun e => hab e.symm
    have hc4 := hL4.cells b hb
    rw [if_neg hba] at hc4
    obtain ⟨hc4, hf4⟩ := hc4
    have hcx := hL4.2.2.2.2.1
    have HL4 := Lib.hid hL4
    clear hL4
    go_wp2_with fail
    go_region_with (go_at_call 38; refine (HX2.out _).mono ?_; rintro e w' ⟨rfl, rfl⟩)
  all_goals
    refine then_on (fun W => SL w W g cap w2.heap.size G.length (fun j => if j = b then Sw.nb G b ^^^ 2 ^ a else (fun j => if j = a then Sw.nb G a ^^^ 2 ^ b else Sw.nb G j) j)) (HL4.out.put b _ _ rfl) ?_
    intro w5 hL5
    have HL5 := Lib.hid hL5
    clear hL5
    have HF := Lib.hid (SL.done HL5.out HE.out)
    obtain ⟨_, _, hcz, hfz, hcx, _, _⟩ := HL5.out
    go_wp2_with fail
    exact bodyPost_ret (v := .tuple #[.agg #[.slice (some ⟨g, 0, none⟩) G.length cap], .bool true]) (by have q := (HF.out (.slice (some ⟨g, 0, none⟩) G.length cap)).2.2; simp [results, Tryd.results31, go_sem, q]) rfl ⟨_, rfl, (HF.out _).1, (HF.out _).2.1⟩
end Go.Proofs.YtmghnfadgnolpaaDoor

