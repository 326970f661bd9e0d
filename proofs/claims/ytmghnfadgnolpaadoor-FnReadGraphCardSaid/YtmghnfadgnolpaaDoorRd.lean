/- The reader of codes: opened, and a number picked; weak contracts: whatever the bytes are, a number in range. Conditions: at most 2^40 bytes, at most 100000 numbers picked before. -/
import Derived.Test.YtmghnfadgnolpaaDoorBytes
import Derived.Deep.QuietTactic
import Derived.BigQuiet
namespace Go.Proofs.YtmghnfadgnolpaaDoor
open Go.RowKit
/-- a reader at block h: m bytes, p numbers picked -/
def Rdr (w : World) (h : Nat) (A : Option Addr) (m c p : Nat) : Prop :=
  w.cell? ⟨h, 0, none⟩ = some (.slice A m c) ∧ w.cell? ⟨h, 1, none⟩ = some (.int .i64 p) ∧ w.frozen? ⟨h, 1, none⟩ = false ∧ RdB w h A m ∧ m ≤ 2000 ∧ h < w.heap.size
def PickPost (w : World) (h : Nat) (A : Option Addr) (m c p : Nat) (n : Int) (e : Ending) (w' : World) : Prop :=
  ∃ v : Int, e = .returned (.int .i64 v) ∧ 0 ≤ v ∧ (1 ≤ n → v < n) ∧ Rdr w' h A m c (p + 1) ∧ w.grownBy w' (some h)
theorem Rdr.put {w : World} {h m c p : Nat} {A : Option Addr} (hR : Rdr w h A m c p) (k : Nat) : Rdr ((w.setCell ⟨h, 1, none⟩ (.int .i64 ((p : Int) + 1))).drewN k) h A m c (p + 1) ∧ w.grownBy ((w.setCell ⟨h, 1, none⟩ (.int .i64 ((p : Int) + 1))).drewN k) (some h) := by
  obtain ⟨h0, h1, h2, h3, h4, h5⟩ := hR
  have hg : w.grownBy ((w.setCell ⟨h, 1, none⟩ (.int .i64 ((p : Int) + 1))).drewN k) (some h) := ⟨rfl, rfl, rfl, by simp [World.setCell, World.drewN], fun j _ hj => Below.heap_setCell _ _ _ _ (fun e => hj (by rw [e]))⟩
  refine ⟨⟨?_, ?_, ?_, fun j hj => ?_, h4, ?_⟩, hg⟩
  · show (w.setCell _ _).cell? _ = _
    rw [World.cell?_setCell_other _ _ _ _ (by intro e; injection e with _ e; cases e)]; exact h0
  · show (w.setCell _ _).cell? _ = _
    rw [World.cell?_setCell_same' _ _ _ (by rw [h1]; rfl)]; rfl
  · show (w.setCell _ _).frozen? _ = _
    simpa [go_sem] using h2
  · obtain ⟨ad, x, e, q1, q2, q3, q4⟩ := h3 j hj
    refine ⟨ad, x, e, q1, q2, q3, ?_⟩
    refine (World.cell?_of_block (hg.block _ ?_ ?_)).trans q4
    · rw [add_block]; omega
    · rw [add_block]; intro e; injection e with e; omega
  · show h < (w.setCell _ _).heap.size
    simpa [World.setCell] using h5
theorem pick_sum (x1 x2 p q : Nat) (h1 : x1 ≤ 255) (h2 : x2 ≤ 255) (hp : p ≤ 100000) (hq : q ≤ p) : x1 * 131 + x2 * 1117 + p * 29 + q * 53 ≤ 100000000 := by omega
set_option maxRecDepth 100000 in
set_option maxHeartbeats 4000000 in
theorem pick (h m c p : Nat) (A : Option Addr) (n : Int) (hp : p ≤ 100000) (hn : n ≤ 1099511627776) (w : World) (hR : Rdr w h A m c p) :
    Calls Tryd.prog 27 #[.pointer (some ⟨h, 0, none⟩), .int .i64 n] w (PickPost w h A m c p n) := by
  have HP := Lib.hid (hR.put)
  obtain ⟨hc0, hc1, hfr, hB, hm, hz⟩ := hR
  have hs0 : (w.setCell ⟨h, 1, none⟩ (.int .i64 ((p : Int) + 1))).cell? ⟨h, 0, none⟩ = some (.slice A m c) := (HP.out 0).1.1
  have hs1 : (w.setCell ⟨h, 1, none⟩ (.int .i64 ((p : Int) + 1))).cell? ⟨h, 1, none⟩ = some (.int .i64 ((p : Int) + 1)) := (HP.out 0).1.2.1
  have hw1 : IntKind.i64.wrap ((p : Int) + 1) = (p : Int) + 1 := IntWalk.i64_in _ (by omega)
  have HB := Lib.hid hB
  clear hB
  by_cases hn1 : n < 1
  · go_enter Tryd.func27, Tryd.ntmps27
    go_wp2_with fail
    go_ret
    exact ⟨0, rfl, by omega, fun h => by omega, (HP.out 0).1, (HP.out 0).2⟩
  · by_cases hm0 : m = 0
    · subst hm0
      go_enter Tryd.func27, Tryd.ntmps27
      go_wp2_with fail
      go_ret
      exact ⟨0, rfl, by omega, fun h => by omega, (HP.out 0).1, (HP.out 0).2⟩
    · by_cases hpm : (p : Int) < (m : Int)
      · obtain ⟨ad, x, rfl, _, hx0, hx1, hx⟩ := (HP.out 0).1.2.2.2.1 p (by omega)
        have hx : (w.setCell ⟨h, 1, none⟩ (.int .i64 ((p : Int) + 1))).cell? (ad.add p) = some (.int .u8 x) := hx
        have hv0 : 0 ≤ x % n := Int.emod_nonneg _ (by omega)
        have hv1 : x % n < n := Int.emod_lt_of_pos _ (by omega)
        have HV0 := Lib.hid hv0
        have HV1 := Lib.hid hv1
        have hn0 : ¬ n = 0 := by omega
        clear hv0 hv1
        go_enter Tryd.func27, Tryd.ntmps27
        go_wp2_with fail
        go_ret
        exact ⟨x % n, rfl, HV0.out, fun _ => HV1.out, (HP.out 0).1, (HP.out 0).2⟩
      · have hm1 : 0 < m := by omega
        obtain ⟨i1, hi1⟩ : ∃ i1 : Nat, i1 = p % m := ⟨_, rfl⟩
        obtain ⟨i2, hi2⟩ : ∃ i2 : Nat, i2 = (p * 7 + 3) % m := ⟨_, rfl⟩
        obtain ⟨q, hq⟩ : ∃ q : Nat, q = p / m := ⟨_, rfl⟩
        have l1 : i1 < m := by rw [hi1]; exact Nat.mod_lt _ hm1
        have l2 : i2 < m := by rw [hi2]; exact Nat.mod_lt _ hm1
        have lq : q ≤ p := by rw [hq]; exact Nat.div_le_self _ _
        have ht1 : (p : Int).tmod (m : Int) = (i1 : Int) := by rw [hi1, Int.tmod_eq_emod_of_nonneg (by omega)]; simp
        have ht2 : ((p : Int) * 7 + 3).tmod (m : Int) = (i2 : Int) := by
          rw [hi2, Int.tmod_eq_emod_of_nonneg (by omega), show (p : Int) * 7 + 3 = ((p * 7 + 3 : Nat) : Int) by omega]; simp
        have htq : (p : Int).tdiv (m : Int) = (q : Int) := by rw [hq, Int.tdiv_eq_ediv_of_nonneg (by omega)]; simp
        obtain ⟨ad, x1, rfl, _, a0, a1, hx1⟩ := (HP.out 0).1.2.2.2.1 i1 l1
        obtain ⟨ad', x2, e2, _, b0, b1, hx2⟩ := (HP.out 0).1.2.2.2.1 i2 l2
        injection e2 with e2
        subst e2
        obtain ⟨y1, rfl⟩ := Int.eq_ofNat_of_zero_le a0
        obtain ⟨y2, rfl⟩ := Int.eq_ofNat_of_zero_le b0
        have hx1 : (w.setCell ⟨h, 1, none⟩ (.int .i64 ((p : Int) + 1))).cell? (ad.add i1) = some (.int .u8 y1) := hx1
        have hx2 : (w.setCell ⟨h, 1, none⟩ (.int .i64 ((p : Int) + 1))).cell? (ad.add i2) = some (.int .u8 y2) := hx2
        have c1 : 0 ≤ (i1 : Int) := by omega
        have c2 : (i1 : Int) < (m : Int) := by omega
        have c3 : 0 ≤ (i2 : Int) := by omega
        have c4 : (i2 : Int) < (m : Int) := by omega
        have cv1 : IntKind.i64.wrap (y1 : Int) = (y1 : Int) := IntWalk.i64_in _ (by omega)
        have cv2 : IntKind.i64.wrap (y2 : Int) = (y2 : Int) := IntWalk.i64_in _ (by omega)
        have s1 : IntKind.i64.wrap ((y1 : Int) * 131) = (y1 : Int) * 131 := IntWalk.i64_in _ (by omega)
        have s2 : IntKind.i64.wrap ((p : Int) * 7) = (p : Int) * 7 := IntWalk.i64_in _ (by omega)
        have s3 : IntKind.i64.wrap ((p : Int) * 7 + 3) = (p : Int) * 7 + 3 := IntWalk.i64_in _ (by omega)
        have s4 : IntKind.i64.wrap ((y2 : Int) * 1117) = (y2 : Int) * 1117 := IntWalk.i64_in _ (by omega)
        have s5 : IntKind.i64.wrap ((y1 : Int) * 131 + (y2 : Int) * 1117) = (y1 : Int) * 131 + (y2 : Int) * 1117 := IntWalk.i64_in _ (by omega)
        have s6 : IntKind.i64.wrap ((p : Int) * 29) = (p : Int) * 29 := IntWalk.i64_in _ (by omega)
        have s7 : IntKind.i64.wrap ((y1 : Int) * 131 + (y2 : Int) * 1117 + (p : Int) * 29) = (y1 : Int) * 131 + (y2 : Int) * 1117 + (p : Int) * 29 := IntWalk.i64_in _ (by omega)
        have s8 : IntKind.i64.wrap ((q : Int) * 53) = (q : Int) * 53 := IntWalk.i64_in _ (by omega)
        obtain ⟨X, hX⟩ : ∃ X : Nat, X = y1 * 131 + y2 * 1117 + p * 29 + q * 53 := ⟨_, rfl⟩
        have hXb : X ≤ 100000000 := by rw [hX]; exact pick_sum y1 y2 p q (by omega) (by omega) hp lq
        have s9 : IntKind.i64.wrap ((y1 : Int) * 131 + (y2 : Int) * 1117 + (p : Int) * 29 + (q : Int) * 53) = (X : Int) := by
          rw [IntWalk.i64_in _ (by omega), hX]; omega
        obtain ⟨Y, hY⟩ : ∃ Y : Nat, Y = X ^^^ (X / 64) := ⟨_, rfl⟩
        have hYb : Y < 2 ^ 40 := by rw [hY]; exact Nat.xor_lt_two_pow (by omega) (by omega)
        have hxor : bits .xor .i64 (X : Int) ((X : Int) / 64) = (Y : Int) := by
          rw [show (X : Int) / 64 = ((X / 64 : Nat) : Int) by omega, hY]; exact i64_xor _ _ (by omega) (by omega)
        have hv0 : 0 ≤ (Y : Int) % n := Int.emod_nonneg _ (by omega)
        have hv1 : (Y : Int) % n < n := Int.emod_lt_of_pos _ (by omega)
        have HV0 := Lib.hid hv0
        have HV1 := Lib.hid hv1
        have hn0 : ¬ n = 0 := by omega
        have hmi : ¬ (m : Int) = 0 := by omega
        clear hv0 hv1 hX hY hi1 hi2 hq
        go_enter Tryd.func27, Tryd.ntmps27
        go_wp2_with fail
        go_quiet (fail)
        clear s1 s2 s3 s4 s5 s6 s7 s8 s9 ht1 ht2 htq cv1 cv2
        go_wp2_with fail
        go_ret
        exact ⟨(Y : Int) % n, rfl, HV0.out, fun _ => HV1.out, (HP.out _).1, (HP.out _).2⟩
end Go.Proofs.YtmghnfadgnolpaaDoor

