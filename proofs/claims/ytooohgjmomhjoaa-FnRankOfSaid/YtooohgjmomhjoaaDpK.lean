/- DrawRankOf: the draw of rows; weak contract: a list of at most eleven ints. Conditions: at most 2^40 bytes. -/
import Derived.Test.YtooohgjmomhjoaaDz
import Derived.Test.YtooohgjmomhjoaaRows2
namespace Go.Proofs.Ytooohgjmomhjoaa
open Go.RowKit
def DrawR (w : World) (e : Ending) (w' : World) : Prop := ∃ (A1 : Option Addr) (c1 : Nat) (L : List Int), e = .returned (.slice A1 L.length c1) ∧ L.length ≤ 11 ∧ RdI w' w'.heap.size A1 L ∧ Below w.heap.size w w'
/-- the reader, and a list behind it -/
def Dy (w W : World) (A : Option Addr) (m c K : Nat) (A2 : Option Addr) (n2 c2 : Nat) (P : List Int) : Prop :=
  Below w.heap.size w W ∧ (∃ p, p ≤ K ∧ Rdr W w.heap.size A m c p) ∧ OwnI W (w.heap.size + 1) W.heap.size (.slice A2 n2 c2) P ∧ P.length = n2
section
variable {w W W' : World} {m c K n2 c2 p : Nat} {A A2 : Option Addr} {P : List Int}
theorem Dy.pick (g : Dy w W A m c K A2 n2 c2 P) (hR : Rdr W' w.heap.size A m c p) (hg : W.grownBy W' (some w.heap.size)) (hp : p ≤ K + 1) : Dy w W' A m c (K + 1) A2 n2 c2 P := by
  obtain ⟨g1, g2, g3, g4⟩ := g
  exact ⟨g1.trans (below_of_grown (B := w.heap.size) hg g1.size (fun q e => by injection e with e; omega)), ⟨p, hp, hR⟩, (g3.grown hg (fun q e => by injection e with e; omega)).up, g4⟩
theorem Dy.mono {K' : Nat} (g : Dy w W A m c K A2 n2 c2 P) (hK : K ≤ K') : Dy w W A m c K' A2 n2 c2 P := by
  obtain ⟨g1, ⟨p, hp, hR⟩, g3⟩ := g
  exact ⟨g1, ⟨p, by omega, hR⟩, g3⟩
theorem Dy.alloc (g : Dy w W A m c K A2 n2 c2 P) (o : Obj) : Dy w (W.alloc o) A m c K A2 n2 c2 P := by
  obtain ⟨g1, ⟨p, hp, hR⟩, g3, g4⟩ := g
  have ga := World.grownBy_alloc W o none
  exact ⟨g1.alloc g1.size o, ⟨p, hp, hR.grown ga (fun q e => by cases e)⟩, (g3.grown ga (fun q e => by cases e)).up, g4⟩
theorem Dy.add {w2 : World} {g' cap : Nat} {o : Obj} {x : Int} (g : Dy w W A m c K A2 n2 c2 P)
    (hown : w2.ownsRow (w.heap.size + 1) 3 1 (.slice (some ⟨g', 0, none⟩) (n2 + 1) cap) (n2 + 1) (ints P ++ [.int .i64 x])) (hg : (W.alloc o).grownBy w2 (Value.ownBlock (.slice A2 n2 c2))) :
    Dy w w2 A m c K (some ⟨g', 0, none⟩) (n2 + 1) cap (P ++ [x]) := by
  obtain ⟨g1, ⟨p, hp, hR⟩, g3, g4⟩ := g
  obtain ⟨q1, q2⟩ := append_int g4 hown hg
  have hlo : ∀ q, Value.ownBlock (.slice A2 n2 c2) = some q → w.heap.size + 1 ≤ q := fun q e => (g3.1.lt q e).1
  exact ⟨g1.trans (below_of_grown (B := w.heap.size) q2 g1.size (fun q e => by have := hlo q e; omega)), ⟨p, hp, hR.grown q2 (fun q e => by have := hlo q e; omega)⟩, q1, by simp [g4]⟩
theorem Dy.start (hb : Below w.heap.size w W) (hR : Rdr W w.heap.size A m c p) : Dy w (W.alloc (.cells #[] 3)) A m c p (some ⟨W.heap.size, 0, none⟩) 0 0 [] := by
  have ga := World.grownBy_alloc W (.cells #[] 3) none
  have hz := hR.2.2.2.2.2
  exact ⟨hb.alloc hb.size _, ⟨p, Nat.le_refl _, hR.grown ga (fun q e => by cases e)⟩, (lit0 W).lo_ hz, rfl⟩
theorem Dy.fin (g : Dy w W A m c K A2 n2 c2 P) : RdI W W.heap.size A2 P ∧ Below w.heap.size w W := by
  obtain ⟨g1, _, g3, g4⟩ := g
  obtain ⟨A', c', e, hr⟩ := g3.rd
  injection e with e _ _
  subst e
  exact ⟨hr, g1⟩
end
theorem vRows_len (l : List Int) : (Sw.toI (Sw.vRows l)).length ≤ 9 := by
  rcases Sw.gvB_cases l with h | ⟨G, rfl, hG⟩
  · rw [Sw.vRows_no h]; simp [Sw.toI]
  · rw [Sw.vRows_yes hG, Sw.toI_len, Sw.tab_len]; exact hG.le
set_option maxRecDepth 100000 in
set_option maxHeartbeats 4000000 in
theorem drawRankOf (A : Option Addr) (n c : Nat) (hn : n ≤ 1099511627776) (hc : n ≤ c) (w : World) (hB : RdB w w.heap.size A n) :
    Calls Try.prog 17 #[.slice A n c] w (DrawR w) := by
  obtain ⟨i0, hi, hz0, hz1i, hz2⟩ := info_parts info_int
  go_enter Try.func17, Try.ntmps17
  go_wp2_with fail
  refine (l20Open A n c hn hc _ hB).mono ?_
  rintro e W1 ⟨A', m, rfl, hR, hb⟩
  go_wp2_with fail
  refine (pick w.heap.size m c 0 A' 2 (by omega) (by decide) _ hR).mono ?_
  rintro e W2 ⟨v, rfl, v0, v1, hR2, hg⟩
  have hb2 := hb.trans (below_of_grown (B := w.heap.size) hg hb.size (fun g e => by injection e with e; omega))
  clear hR hb hg v1 hB
  by_cases hv : v = 0
  · subst hv
    go_wp2_with fail
    refine (l20Graph w.heap.size m c 1 A' 0 (by omega) (by omega) _ hR2).mono ?_
    rintro e W3 ⟨A1, n1, c1, p', l, rfl, h10, _, _, hg, hl, hr⟩
    subst hl
    have hb3 := hb2.trans (below_of_grown (B := w.heap.size) hg hb2.size (fun g e => by injection e with e; omega))
    clear hR2 hb2 hg
    go_wp2_with fail
    refine (specRowsOf l A1 c1 (by omega) _ hr.rd).mono ?_
    rintro e W4 ⟨v, rfl, hO, hb4⟩
    obtain ⟨A4, c4, rfl, hr4⟩ := hO.rd
    have HB := Lib.hid (hb3.trans (hb4.mono hb3.size))
    have HL := Lib.hid (vRows_len l)
    obtain ⟨L, hL⟩ : ∃ L, L = Sw.toI (Sw.vRows l) := ⟨_, rfl⟩
    rw [← hL] at hr4 HL ⊢
    have HR4 := Lib.hid hr4
    clear hL hO hb3 hb4 hr hr4
    go_wp2_with fail
    go_ret
    exact ⟨A4, c4, L, rfl, Nat.le_trans HL.out (by decide), HR4.out, HB.out⟩
  · have HD0 := Lib.hid (Dy.start hb2 hR2)
    obtain ⟨_, ⟨p0, hp0, hR0⟩, _⟩ := HD0.out
    clear hb2 hR2
    go_wp2_with fail
    refine (pick w.heap.size m c p0 A' 10 (by omega) (by decide) _ hR0).mono ?_
    rintro e W3 ⟨vk, rfl, vk0, vk1, hR1, hg1⟩
    have vk1 := vk1 (by decide)
    obtain ⟨k0, rfl⟩ := Int.eq_ofNat_of_zero_le vk0
    have HD1 := Lib.hid ((HD0.out.pick hR1 hg1 (by omega)).mono (show 0 + 1 + 1 ≤ 300 - 2 * k0 by omega))
    clear hR0 hR1 hg1 hp0 p0 hv
    go_wp2_with fail
    go_loopw [4, 5] (fun q i wr => ∃ k : Nat, k ≤ 9 ∧ i = .int .i64 k ∧ ∃ (A2 : Option Addr) (n2 c2 : Nat) (P : List Int), q = .slice A2 n2 c2 ∧ n2 + k ≤ 9 ∧ Dy w wr A' m c (300 - 2 * k) A2 n2 c2 P) (fun _ i _ => (intOf i).toNat)
    case atStart => exact ⟨k0, by omega, rfl, _, 0, 0, [], rfl, by omega, HD1.out⟩
    case round =>
      obtain ⟨k, hk, rfl, A2, n2, c2, P, rfl, hnk, hD⟩ := hrel
      have HD := Lib.hid hD
      clear hD HD0 HD1
      obtain ⟨_, ⟨p0, hp0, hR0⟩, _⟩ := HD.out
      by_cases hk0 : (0 : Int) < (k : Int)
      · have hd : decide ((0 : Int) < (k : Int)) = true := decide_eq_true hk0
        go_wp2_with fail
        refine (pick w.heap.size m c p0 A' 16 (by omega) (by decide) _ hR0).mono ?_
        rintro e W4 ⟨v1, rfl, v1_0, v1_1, hR1, hg1⟩
        have v1_1 := v1_1 (by decide)
        have HD2 := Lib.hid (HD.out.pick hR1 hg1 (by omega))
        clear hR0 hg1
        go_wp2_with fail
        refine (pick w.heap.size m c (p0 + 1) A' 3 (by omega) (by decide) _ hR1).mono ?_
        rintro e W5 ⟨v2, rfl, v2_0, v2_1, hR2, hg2⟩
        have v2_1 := v2_1 (by decide)
        have HD3 := Lib.hid ((HD2.out.pick hR2 hg2 (by omega)).mono (show 300 - 2 * k + 1 + 1 ≤ 300 - 2 * (k - 1) by omega))
        obtain ⟨_, _, hO, hPn⟩ := HD3.out
        have HO := Lib.hid hO.1
        rw [hPn] at HO
        have hbW : w.heap.size < W5.heap.size := hR2.2.2.2.2.2
        clear hR1 hR2 hg2 hO hPn hd
        have hx0 : 0 ≤ v1 * (1 + v2 * 8) := Int.mul_nonneg v1_0 (by omega)
        have hx1 : v1 * (1 + v2 * 8) ≤ 15 * 17 := Int.mul_le_mul (by omega) (by omega) (by omega) (by decide)
        have hwm : IntKind.i64.wrap (v1 * (1 + v2 * 8)) = v1 * (1 + v2 * 8) := IntWalk.i64_in _ (by omega)
        go_wp2_with (at_builtin; go_loud (refine wpList_append_lies _ rfl _ _ 23 rfl (w.heap.size + 1) 3 i0 (.int .i64 0) 1 8 Try.underlying23 hi hz0 hz1i hz2 rfl (by decide) (.slice A2 n2 c2) n2 (ints P) rfl (HO.out.alloc _) ⟨W5.heap.size, 0, none⟩ 1 1 [.int .i64 _] rfl rfl (World.news_of_block (heap_alloc_new W5 _)) (by intro u hu; simp at hu; subst hu; rfl) (by decide) (by unfold maxLen; omega) (by omega) (by simp; omega) _ rfl ?_); intro g cp w3 hown2 hgr2 hat2 hlt2)
        have HD4 := Lib.hid (HD3.out.add hown2 hgr2)
        clear hown2 hgr2 hat2
        go_wp2_with fail
        go_roundw
        case rel => exact ⟨k - 1, by omega, val_i (by omega), _, n2 + 1, cp, _, rfl, by omega, HD4.out⟩
        case measure => simp [intOf]; omega
      · have hd : decide ((0 : Int) < (k : Int)) = false := decide_eq_false hk0
        go_wp2_with fail
        refine (odd w.heap.size m c p0 A' 9 (by omega) (by decide) _ hR0).mono ?_
        rintro e W4 ⟨o, p1, rfl, hp1', hR1, hg1⟩
        have HD2 := Lib.hid (HD.out.pick hR1 hg1 (by omega))
        clear hR0 hR1 hg1 hp0
        cases o
        · obtain ⟨_, _, _, hPn⟩ := HD2.out
          have HPN := Lib.hid hPn
          clear hPn
          go_wp2_with fail
          go_ret
          exact ⟨A2, c2, P, by rw [HPN.out]; rfl, by have := HPN.out; omega, HD2.out.fin.1, HD2.out.fin.2⟩
        · have HD3 := Lib.hid (HD2.out.alloc (.cells #[.int .i64 (-1), .int .i64 512] 3))
          obtain ⟨_, ⟨p2, hp2, hR2⟩, _⟩ := HD3.out
          go_wp2_with fail
          refine (pick w.heap.size m c p2 A' 2 (by omega) (by decide) _ hR2).mono ?_
          rintro e W5 ⟨v3, rfl, v3_0, v3_1, hR3, hg3⟩
          have v3_1 := v3_1 (by decide)
          have HD4 := Lib.hid (HD3.out.pick hR3 hg3 (by omega))
          obtain ⟨_, _, hO, hPn⟩ := HD4.out
          have HO := Lib.hid hO.1
          rw [hPn] at HO
          have HPN := Lib.hid hPn
          have hbW : w.heap.size < W5.heap.size := hR3.2.2.2.2.2
          have hz4 : w.heap.size < W4.heap.size := by
            have := HD2.out.2.1
            obtain ⟨_, _, q⟩ := this
            exact q.2.2.2.2.2
          have hq0 : W5.cell? ⟨W4.heap.size, 0, none⟩ = some (.int .i64 (-1)) := hg3.cell (by simp [go_sem]) (by intro e; injection e with e; simp at e; omega)
          have hq1 : W5.cell? ⟨W4.heap.size, 1, none⟩ = some (.int .i64 512) := hg3.cell (by simp [go_sem]) (by intro e; injection e with e; simp at e; omega)
          clear hR2 hR3 hg3 hO hPn
          have hv3 : v3 = 0 ∨ v3 = 1 := by omega
          rcases hv3 with rfl | rfl
          all_goals
            go_wp2_with (at_builtin; go_loud (refine wpList_append_lies _ rfl _ _ 23 rfl (w.heap.size + 1) 3 i0 (.int .i64 0) 1 8 Try.underlying23 hi hz0 hz1i hz2 rfl (by decide) (.slice A2 n2 c2) n2 (ints P) rfl (HO.out.alloc _) ⟨W5.heap.size, 0, none⟩ 1 1 [.int .i64 _] rfl rfl (World.news_of_block (heap_alloc_new W5 _)) (by intro u hu; simp at hu; subst hu; rfl) (by decide) (by unfold maxLen; omega) (by omega) (by simp; omega) _ rfl ?_); intro g cp w3 hown2 hgr2 hat2 hlt2)
            have HD5 := Lib.hid (HD4.out.add hown2 hgr2)
            clear hown2 hgr2 hat2
            go_wp2_with fail
            go_ret
            exact ⟨some ⟨g, 0, none⟩, cp, P ++ [_], by rw [List.length_append, HPN.out]; rfl, by rw [List.length_append, HPN.out]; simp; omega, HD5.out.fin.1, HD5.out.fin.2⟩
end Go.Proofs.Ytooohgjmomhjoaa

