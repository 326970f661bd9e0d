/- RankOf of the reference by its contract. No conditions. -/
import Derived.Test.YtooohgjmomhjoaaRank
import Derived.Deep.AppendSrc
namespace Go.Proofs.Ytooohgjmomhjoaa
open Go.RowKit
theorem setCells_nil (w : World) (b o : Nat) : w.setCells b o [] = w := by first | rfl | simp [World.setCells]
/-- append([]int{}, x...) -/
theorem run_copy {w : World} {base B : Nat} {A : Option Addr} {c : Nat} {l : List Int} {i0 : TypeInfo} (ty : TypeId) (hi : Try.prog.info? 3 = some i0) (hz0 : i0.zero = some (.int .i64 0)) (hz1 : i0.size = 1) (hz2 : i0.bytes = 8)
    (hr : RdI w w.heap.size A l) (hl : l.length ≤ 1048576) (hown : w.ownsRow base 3 1 (.slice (some ⟨B, 0, none⟩) 0 0) 0 []) (hbase : base ≤ w.heap.size) :
    ∃ g cap w', (Builtin.append_ #[23, 23] ty #[.slice (some ⟨B, 0, none⟩) 0 0, .slice A l.length c]).run Try.prog w = .ok (.slice (some ⟨g, 0, none⟩) l.length cap) w' ∧ w'.ownsRow base 3 1 (.slice (some ⟨g, 0, none⟩) l.length cap) l.length (ints l) ∧ w.grownBy w' (some B) := by
  by_cases h0 : l.length = 0
  · have e : l = [] := List.length_eq_zero_iff.1 h0
    subst e
    have hs : Src Try.prog i0.size 23 (.slice A 0 c) 0 [] w := by
      cases A with
      | none => exact Src.ofNil w Try.underlying23 c
      | some a => exact Src.ofSlice w Try.underlying23 a 0 c [] (by simp) (fun j u h => by simp at h) (fun u h => by cases h)
    have := run_append_room_src (P := Try.prog) w 23 23 ty 3 i0 Try.underlying23 hi B 0 0 0 (.slice A 0 c) 0 [] hs (by omega) (fun j h => by simp at h) (fun j h => by simp at h)
    rw [setCells_nil] at this
    exact ⟨B, 0, w, this, hown, ⟨rfl, rfl, rfl, Nat.le_refl _, fun _ _ _ => rfl⟩⟩
  · obtain ⟨ad, rfl, _, _⟩ := hr 0 (by omega)
    obtain ⟨g, cap, w', h1, h2, h3, _, _⟩ := run_append_lies (P := Try.prog) w 23 ty base 3 i0 (.int .i64 0) 1 8 Try.underlying23 hi hz0 hz1 hz2 rfl (by decide) _ 0 [] hown ad l.length c (ints l) (by rw [ints_len]; omega) (fun j u hu => by
      have hj : j < l.length := by
        rcases Nat.lt_or_ge j l.length with h | h
        · exact h
        · rw [List.getElem?_eq_none (by rw [ints_len]; exact h)] at hu; cases hu
      obtain ⟨ad', e, _, hc⟩ := hr j hj
      injection e with e
      subst e
      rw [ints_get l j hj] at hu
      injection hu with hu
      rw [← hu]; exact hc) (fun u hu => by unfold ints at hu; simp at hu; obtain ⟨x, _, rfl⟩ := hu; rfl) (by omega) (by unfold maxLen; omega) (by omega) hbase _ rfl
    rw [Nat.zero_add] at h1 h2
    exact ⟨g, cap, w', h1, by simpa using h2, h3⟩
theorem wpList_copy {w : World} {ops : Array Oper} {rest : List Oper} {o : Oper} {a : Act} {Q : Exit → Act → World → Prop} (hgd : o.guard = none) (s x : Operand)
    (ho : o.op = .call { callee := .builtin .append, args := #[s, x], argTypes := #[23, 23] }) {base B : Nat} {A : Option Addr} {c : Nat} {l : List Int} {i0 : TypeInfo} (hi : Try.prog.info? 3 = some i0) (hz0 : i0.zero = some (.int .i64 0)) (hz1 : i0.size = 1) (hz2 : i0.bytes = 8)
    (hr : RdI w w.heap.size A l) (hl : l.length ≤ 1048576) (hown : w.ownsRow base 3 1 (.slice (some ⟨B, 0, none⟩) 0 0) 0 []) (hbase : base ≤ w.heap.size) (hs : a.eval s = .slice (some ⟨B, 0, none⟩) 0 0) (n : Nat) (hn : l.length = n) (hx : a.eval x = .slice A n c)
    (h : ∀ g cap w', w'.ownsRow base 3 1 (.slice (some ⟨g, 0, none⟩) n cap) n (ints l) → w.grownBy w' (some B) → wpList Try.prog ops Q rest (a.put o.dst (.slice (some ⟨g, 0, none⟩) n cap)) w') : wpList Try.prog ops Q (o :: rest) a w := by
  subst hn
  refine wpList_plain hgd fun _ hK => ?_
  obtain ⟨g, cap, w', h1, h2, h3⟩ := run_copy (c := c) o.type hi hz0 hz1 hz2 hr hl hown hbase
  unfold Oper.wp execOp
  simp only [ho, resolve, invoke, builtin, Sem.run_bind, Sem.run_pure, Result.andThen_ok, List.map_toArray, List.map_cons, List.map_nil, hs, hx, h1]
  exact hK _ _ (h g cap w' h2 h3)
/-- a row of truths of the call's own: the bits of c -/
def bools (n c : Nat) : List Value := (Sw.tab n fun k => Value.bool (c.testBit k))
theorem bools_len (n c : Nat) : (bools n c).length = n := Sw.tab_len _ _
theorem bools_get {n k : Nat} (c : Nat) (h : k < n) : (bools n c)[k]? = some (.bool (c.testBit k)) := Sw.tab_get _ h
theorem bools_set (n c k : Nat) : (bools n c).set k (.bool true) = bools n (c ||| 2 ^ k) := by
  unfold bools
  rw [Sw.tab_set]
  refine Sw.tab_congr fun j _ => ?_
  show (if j = k then Value.bool true else Value.bool (c.testBit j)) = Value.bool ((c ||| 2 ^ k).testBit j)
  rw [Nat.testBit_or, Sw.tb_two]
  by_cases q : j = k
  · subst q; simp
  · have q2 : ¬ k = j := fun e => q e.symm
    simp [q, q2]
def OwnB (w : World) (lo hi n c : Nat) : Prop := w.ownsRow lo 4 1 (.slice (some ⟨lo, 0, none⟩) n n) n (bools n c) ∧ lo < hi ∧ hi ≤ w.heap.size
theorem OwnB.cell {w : World} {lo hi n c : Nat} (h : OwnB w lo hi n c) (k : Nat) (hk : k < n) : w.cell? ⟨lo, k, none⟩ = some (.bool (c.testBit k)) ∧ w.frozen? ⟨lo, k, none⟩ = false :=
  ⟨by rw [h.1.cellAt k (by omega)]; exact bools_get c hk, h.1.frozenAt k⟩
theorem OwnB.grown {w w' : World} {lo hi n c : Nat} {row : Option Nat} (h : OwnB w lo hi n c) (hg : w.grownBy w' row) (hr : row ≠ some lo) : OwnB w' lo hi n c :=
  ⟨h.1.kept hg (.inr fun e => hr e.symm), h.2.1, Nat.le_trans h.2.2 hg.size⟩
theorem OwnB.set {w : World} {lo hi n c : Nat} (h : OwnB w lo hi n c) (k : Nat) : OwnB (w.setCell ⟨lo, k, none⟩ (.bool true)) lo hi n (c ||| 2 ^ k) ∧ w.grownBy (w.setCell ⟨lo, k, none⟩ (.bool true)) (some lo) := by
  obtain ⟨h1, h2⟩ := h.1.stored k (.bool true)
  rw [bools_set] at h1
  exact ⟨⟨h1, h.2.1, Nat.le_trans h.2.2 h2.size⟩, h2⟩
/-- the reference's two rows, and what was there before -/
def RS (w wr : World) (h1 h2 g cap n : Nat) (f : Nat → Nat) (c : Nat) : Prop := OwnF wr w.heap.size h1 (.slice (some ⟨g, 0, none⟩) n cap) n f ∧ OwnB wr h1 h2 n c ∧ Below w.heap.size w wr ∧ w.heap.size ≤ g ∧ g < h1
theorem RS.cells {w wr : World} {h1 h2 g cap n c : Nat} {f : Nat → Nat} (h : RS w wr h1 h2 g cap n f c) (k : Nat) (hk : k < n) : wr.cell? ⟨g, k, none⟩ = some (.int .i64 (f k : Nat)) ∧ wr.frozen? ⟨g, k, none⟩ = false := by
  obtain ⟨g', c', e, _, _, hc⟩ := h.1.form (by omega)
  injection e with e1 _ _
  injection e1 with e1
  injection e1 with e1 _ _
  subst e1
  exact hc k hk
theorem RS.put {w wr : World} {h1 h2 g cap n c : Nat} {f : Nat → Nat} (h : RS w wr h1 h2 g cap n f c) (k x : Nat) (y : Int) (hy : y = (x : Nat)) : RS w (wr.setCell ⟨g, k, none⟩ (.int .i64 y)) h1 h2 g cap n (fun j => if j = k then x else f j) c := by
  subst hy
  obtain ⟨hO, hB, hb, hz, hz2⟩ := h
  obtain ⟨q1, q2⟩ := hO.set k x
  exact ⟨q1, hB.grown q2 (by intro e; injection e with e; omega), hb.trans (below_of_grown q2 hb.size (fun g h => by injection h with h; omega)), hz, hz2⟩
theorem RS.use {w wr : World} {h1 h2 g cap n c : Nat} {f : Nat → Nat} (h : RS w wr h1 h2 g cap n f c) (k : Nat) : RS w (wr.setCell ⟨h1, k, none⟩ (.bool true)) h1 h2 g cap n f (c ||| 2 ^ k) := by
  obtain ⟨hO, hB, hb, hz, hz2⟩ := h
  obtain ⟨q1, q2⟩ := hB.set k
  exact ⟨hO.grown q2 (fun g h => by injection h with h; omega), q1, hb.trans (below_of_grown q2 hb.size (fun g h => by injection h with h; omega)), hz, hz2⟩
theorem RS.draw {w wr : World} {h1 h2 g cap n c : Nat} {f : Nat → Nat} (h : RS w wr h1 h2 g cap n f c) : RS w wr.drew h1 h2 g cap n f c := ⟨h.1, h.2.1, bdr h.2.2.1 1, h.2.2.2⟩
theorem RS.congr {w wr : World} {h1 h2 g cap n c : Nat} {f f' : Nat → Nat} (h : RS w wr h1 h2 g cap n f c) (e : ∀ k, k < n → f k = f' k) : RS w wr h1 h2 g cap n f' c := by
  obtain ⟨hO, r⟩ := h
  refine ⟨?_, r⟩
  unfold OwnF at hO ⊢
  rw [Sw.tab_congr e] at hO; exact hO
theorem info_bool : (Try.prog.info? 4).map (fun i => (i.zero, i.size, i.bytes)) = some (some (.bool false), 1, 1) := by kernel_rfl
theorem made_bools {w1 : World} {B n : Nat} (h : w1.ownsRow B 4 1 (.slice (some ⟨B, 0, none⟩) n n) n (madeCells (Value.bool false).cells (n * 1)).toList) : OwnB w1 B w1.heap.size n 0 := by
  have e : (madeCells (Value.bool false).cells (n * 1)).toList = bools n 0 := by
    show (madeCells #[Value.bool false] (n * 1)).toList = _
    rw [toList_madeCells_one, Nat.mul_one]
    unfold bools
    apply List.ext_getElem?
    intro j
    by_cases hj : j < n
    · rw [Sw.tab_get _ hj]; simp [hj]
    · rw [List.getElem?_eq_none (by simp; omega), List.getElem?_eq_none (by rw [Sw.tab_len]; omega)]
  rw [e] at h
  exact ⟨h, (h.lt B rfl).2, Nat.le_refl _⟩
set_option maxRecDepth 100000 in
set_option maxHeartbeats 2000000 in
theorem specRankOf (l : List Int) (A : Option Addr) (cp : Nat) (hl : l.length ≤ 1048576) (w : World) (hr : RdI w w.heap.size A l) :
    Calls Try.prog 19 #[.slice A l.length cp] w fun e w' => e = .returned (.int .i64 (Sw.vRank l)) ∧ Below w.heap.size w w' := by
  by_cases h9 : l.length ≤ 9
  · obtain ⟨n, hn⟩ : ∃ n, n = l.length := ⟨_, rfl⟩
    have HN := Lib.hid hn
    rw [← hn] at h9 ⊢
    clear hn
    obtain ⟨i0, hi, hz0, hz1, hz2⟩ := info_parts info_int
    obtain ⟨ib, hib, hzb0, hzb1, hzb2⟩ := info_parts info_bool
    go_enter Try.func19, Try.ntmps19
    go_wp2_with fail
    go_loopw [3] (fun i wr => ∃ k : Nat, k ≤ n ∧ i = .int .i64 k ∧ w = wr ∧ ∀ j, j < k → 0 ≤ Sw.gat l j ∧ Sw.gat l j < 512) (fun i _ => (n - intOf i).toNat)
    case atStart => exact ⟨0, by omega, rfl, rfl, fun j hj => by omega⟩
    case round =>
      obtain ⟨k, hk, rfl, rfl, ho⟩ := hrel
      have HO := Lib.hid ho
      clear ho
      by_cases hlt : k < n
      · obtain ⟨ad, rfl, hbb, hc⟩ := hr k (by rw [← HN.out]; exact hlt)
        by_cases g0 : 0 ≤ Sw.gat l k ∧ Sw.gat l k < 512
        · go_wp2_with fail
          refine (l1In_yes _ _ _ _ g0.1 (by omega)).mono ?_
          rintro e w' ⟨rfl, rfl⟩
          go_wp2_with fail
          go_roundw
          case rel =>
            refine ⟨k + 1, by omega, by go_num, by trivial, fun j hj => ?_⟩
            rcases Nat.lt_succ_iff_lt_or_eq.1 hj with q | q
            · exact HO.out j q
            · subst q; exact g0
          case measure => simp [intOf]; omega
        · have HV : Hid (Sw.vRank l = -1) := Sw.vRank_no fun h => g0 (h.2 k (by rw [← HN.out]; exact hlt))
          go_wp2_with fail
          refine (l1In_no _ _ _ _ (by omega)).mono ?_
          rintro e w' ⟨rfl, rfl⟩
          go_wp2_with fail
          go_ret
          exact ⟨ret_i HV.out.symm, Below.refl _ _⟩
      · have : k = n := by omega
        subst this
        have hok : Sw.okRows l := ⟨by rw [← HN.out]; exact h9, fun j hj => HO.out j (by rw [HN.out]; exact hj)⟩
        have HV := Lib.hid (Sw.vRank_yes hok)
        have hf : ∀ j, j < k → Sw.nb (Sw.toN l) j < 2 ^ 9 := fun j hj => Sw.nb_toN_lt hok j (by rw [← HN.out]; exact hj)
        have hlI : l = Sw.toI (Sw.tab k (Sw.nb (Sw.toN l))) := by
          apply Sw.gat_ext (by rw [toI_tab_len, HN.out])
          intro j hj
          rw [gat_toI_tab _ (by rw [HN.out]; exact hj), Sw.nb_toN hj (hok.2 j hj).1]
        have HLI := Lib.hid hlI
        clear hlI
        obtain ⟨f, hff⟩ : ∃ f, f = Sw.nb (Sw.toN l) := ⟨_, rfl⟩
        rw [← hff] at hf HV HLI
        have HI := Lib.hid (Sw.rinv 9 k f hf)
        clear hff hok hf HO
        rw [← HN.out] at HV
        go_wp2_with (first | (at_builtin; go_loud (refine wpList_copy rfl _ _ rfl hi hz0 hz1 hz2 (hr.at_ (below1 _)) hl (World.ownsRow_lit w #[] 0 (Nat.le_refl _) (by unfold maxLen; omega) rfl) (by simp) rfl k (HN.out.symm) rfl ?_); intro g cap w1 hown hgrow) | (at_make; go_loud (refine wpList_make_full _ rfl _ _ 49 rfl w1.heap.size 4 ib (.bool false) 1 Try.underlying49 hib hzb0 hzb1 .i64 .i64 _ _ k rfl rfl rfl rfl (by rw [hzb2]; omega) (by unfold maxLen; omega) (Nat.le_refl _) ?_); intro w2 hown2 hgrow2))
        have hb1 : Below w.heap.size w w1 := (below1 _).trans (below_of_grown hgrow (by simp) (fun g h => by injection h with h; omega))
        have hgs := hown.lt g rfl
        have hF1 : OwnF w1 w.heap.size w1.heap.size (.slice (some ⟨g, 0, none⟩) k cap) k (Sw.rstK k f 0).1 := by
          have e : ints l = ints (Sw.toI (Sw.tab k f)) := congrArg ints HLI.out
          rw [e] at hown
          refine OwnI.own (l := Sw.toI (Sw.tab k f)) ?_
          rw [toI_tab_len]; exact hown
        clear hown hgrow hi hz0 hz1 hz2 i0
        have hR : RS w w2 w1.heap.size w2.heap.size g cap k (Sw.rstK k f 0).1 (Sw.rstK k f 0).2 := by
          refine ⟨hF1.grown hgrow2 (fun g h => by cases h), made_bools hown2, hb1.trans (below_of_grown hgrow2 hb1.size (fun g h => by cases h)), hgs.1, hgs.2⟩
        clear hown2 hgrow2 hib hzb0 hzb1 hzb2 ib
        go_loopw [6, 7] (fun c i wr => ∃ t : Nat, t ≤ 9 ∧ i = .int .i64 t ∧ c = .int .i64 (Sw.cnt (Sw.rstK k f t).2 : Nat) ∧ RS w wr w1.heap.size w2.heap.size g cap k (Sw.rstK k f t).1 (Sw.rstK k f t).2) (fun _ i _ => (9 - intOf i).toNat)
        case atStart => exact ⟨0, by omega, rfl, (by rw [show (Sw.rstK k f 0).2 = 0 from rfl, Sw.cnt_zero]; rfl), hR⟩
        case round =>
          obtain ⟨t, ht, rfl, rfl, hR⟩ := hrel
          by_cases hlt : t < 9
          · have hI := HI.out t
            have hsm := hI.small
            have hcl := hI.lt
            have hst0 := Lib.hid (fun h => Sw.rstK_none (n := k) (l := t) (f := f) h)
            have hst1 := Lib.hid (fun p h => Sw.rstK_some (n := k) (l := t) (p := p) (f := f) h)
            clear hI
            obtain ⟨q, hg⟩ : ∃ q, q = (Sw.rstK k f t).1 := ⟨_, rfl⟩
            obtain ⟨c, hc⟩ : ∃ c, c = (Sw.rstK k f t).2 := ⟨_, rfl⟩
            rw [← hg] at hsm hR
            rw [← hc] at hcl hR ⊢
            rw [← hg, ← hc] at hst0 hst1
            have HR := Lib.hid hR
            have Hg := Lib.hid hg
            have Hc := Lib.hid hc
            clear hg hc hR
            have hcl9 : c < 512 := Nat.lt_of_lt_of_le hcl (Sw.pow29 h9)
            have hcn := Sw.cnt_le hcl (by omega)
            have hdt : decide ((t : Int) < 9) = true := by rw [decide_eq_true_eq]; omega
            go_wp2_with fail
            go_loopw [8] (fun i wr' => ∃ j : Nat, j ≤ k ∧ i = .int .i64 j ∧ wr = wr' ∧ ∀ m, m < j → ¬ ((q m).testBit t = true ∧ c.testBit m = false)) (fun i _ => (k - intOf i).toNat)
            case atStart => exact ⟨0, by omega, rfl, rfl, fun m hm => by omega⟩
            case round =>
              obtain ⟨j, hj, rfl, rfl, ho⟩ := hrel
              have HO := Lib.hid ho
              clear ho
              by_cases hjk : j < k
              · obtain ⟨hcj, hfj⟩ := HR.out.cells j hjk
                obtain ⟨hcu, hfu⟩ := HR.out.2.1.cell j hjk
                have hgj := hsm j hjk
                by_cases hu : c.testBit j = true
                · have HN1 : Hid (¬ ((q j).testBit t = true ∧ c.testBit j = false)) := fun h => by rw [hu] at h; exact absurd h.2 (by simp)
                  rw [hu] at hcu
                  clear hu
                  go_wp2_with fail
                  go_roundw
                  case rel =>
                    refine ⟨j + 1, by omega, by go_num, by trivial, fun m hm => ?_⟩
                    rcases Nat.lt_succ_iff_lt_or_eq.1 hm with r | r
                    · exact HO.out m r
                    · subst r; exact HN1.out
                  case measure => simp [intOf]; omega
                · simp only [Bool.not_eq_true] at hu
                  rw [hu] at hcu
                  by_cases hq : (q j).testBit t = true
                  · have HP := Lib.hid (hst1.out j (Sw.pickF_some.2 ⟨hjk, hq, hu, HO.out⟩))
                    have HCN := Lib.hid (Sw.cnt_or_two hcl hjk h9 hu)
                    have hB := l1Bit (q j) t (by omega) (by omega) wr
                    rw [show Sw.bit (q j) t = 1 by rw [Sw.bit_eq, if_pos hq]] at hB
                    clear hq hu
                    have HU := Lib.hid (HR.out.use j)
                    have hdj : decide (j = k) = false := by rw [decide_eq_false_iff_not]; omega
                    have hdj2 : decide ((j : Int) = k) = false := by rw [decide_eq_false_iff_not]; omega
                    have hdj3 : ((j : Int) == (k : Int)) = false := by rw [beq_nat]; exact hdj
                    go_wp2_with fail
                    refine hB.mono ?_
                    rintro e w' ⟨rfl, rfl⟩
                    go_wp2_with fail
                    go_loopw [9] (fun i wr' => ∃ r : Nat, r ≤ k ∧ i = .int .i64 r ∧ RS w wr' w1.heap.size w2.heap.size g cap k (Sw.addK q t j r) (c ||| 2 ^ j)) (fun i _ => (k - intOf i).toNat)
                    case atStart => exact ⟨0, by omega, rfl, by rw [Sw.addK_zero]; exact HU.out⟩
                    case round =>
                      obtain ⟨r, hr', rfl, hR2⟩ := hrel
                      by_cases hrk : r < k
                      · obtain ⟨hcr, hfr⟩ := hR2.cells r hrk
                        obtain ⟨hcp, hfp⟩ := hR2.cells j hjk
                        rw [Sw.addK_at] at hcr
                        rw [Sw.addK_p] at hcp
                        have HR2 := Lib.hid hR2
                        clear hR2
                        have hgr := hsm r hrk
                        have hdr : decide ((r : Int) < k) = true := by rw [decide_eq_true_eq]; omega
                        by_cases hjp : r = j
                        · have HS := Lib.hid (Sw.addK_skip (g := q) (l := t) (p := j) (j := r) (fun h => h.1 hjp))
                          go_wp2_with fail
                          go_roundw
                          case rel => exact ⟨r + 1, by omega, by go_num, by rw [HS.out]; exact HR2.out⟩
                          case measure => simp [intOf]; omega
                        · have hB2 := l1Bit (q r) t (by omega) (by omega) wr
                          by_cases hq2 : (q r).testBit t = true
                          · have HS := Lib.hid (Sw.addK_step (g := q) (l := t) (p := j) (j := r) ⟨hjp, hq2⟩)
                            rw [show Sw.bit (q r) t = 1 by rw [Sw.bit_eq, if_pos hq2]] at hB2
                            clear hq2
                            go_wp2_with fail
                            refine hB2.mono ?_
                            rintro e w' ⟨rfl, rfl⟩
                            go_wp2_with fail
                            go_region_with (go_at_call 41; refine (l1Other (q r) (q j) (by omega) (by omega) _).mono ?_; rintro e w' ⟨rfl, rfl⟩)
                            all_goals
                              refine then_on (fun w2' => RS w w2' w1.heap.size w2.heap.size g cap k (Sw.addK q t j (r + 1)) (c ||| 2 ^ j)) (by rw [HS.out]; exact (HR2.out.put r _ _ rfl).draw) ?_
                              intro w3 hR3
                              go_wp2_with fail
                              go_roundw
                              case rel => exact ⟨r + 1, by omega, by go_num, hR3⟩
                              case measure => simp [intOf]; omega
                          · have HS := Lib.hid (Sw.addK_skip (g := q) (l := t) (p := j) (j := r) (fun h => hq2 h.2))
                            rw [show Sw.bit (q r) t = 0 by rw [Sw.bit_eq, if_neg hq2]] at hB2
                            clear hq2
                            go_wp2_with fail
                            refine hB2.mono ?_
                            rintro e w' ⟨rfl, rfl⟩
                            go_wp2_with fail
                            go_roundw
                            case rel => exact ⟨r + 1, by omega, by go_num, by rw [HS.out]; exact HR2.out⟩
                            case measure => simp [intOf]; omega
                      · have : r = k := by omega
                        subst this
                        have HE := Lib.hid (hR2.congr (fun i hi => Sw.addK_end q t j _ i hi))
                        clear hR2
                        go_wp2_with fail
                        go_roundw
                        case rel =>
                          refine ⟨t + 1, by omega, by go_num, ?_, ?_⟩
                          · rw [HP.out]; exact val_i (by have := HCN.out; show ((Sw.cnt c : Nat) : Int) + 1 = ((Sw.cnt (c ||| 2 ^ j) : Nat) : Int); omega)
                          · rw [HP.out]; exact HE.out
                        case measure => simp [intOf]; omega
                  · have HN1 : Hid (¬ ((q j).testBit t = true ∧ c.testBit j = false)) := fun h => hq h.1
                    have hB := l1Bit (q j) t (by omega) (by omega) wr
                    rw [show Sw.bit (q j) t = 0 by rw [Sw.bit_eq, if_neg hq]] at hB
                    clear hq hu
                    go_wp2_with fail
                    refine hB.mono ?_
                    rintro e w' ⟨rfl, rfl⟩
                    go_wp2_with fail
                    go_roundw
                    case rel =>
                      refine ⟨j + 1, by omega, by go_num, by trivial, fun m hm => ?_⟩
                      rcases Nat.lt_succ_iff_lt_or_eq.1 hm with r | r
                      · exact HO.out m r
                      · subst r; exact HN1.out
                    case measure => simp [intOf]; omega
              · have : j = k := by omega
                subst this
                have e := hst0.out (Sw.pickF_none.2 HO.out)
                have HE := Lib.hid e
                clear e
                go_wp2_with fail
                go_roundw
                case rel =>
                  refine ⟨t + 1, by omega, by go_num, ?_, ?_⟩
                  · rw [HE.out, ← Hc.out]
                  · rw [HE.out, ← Hg.out, ← Hc.out]; exact HR.out
                case measure => simp [intOf]; omega
          · have : t = 9 := by omega
            subst this
            have HC := Lib.hid (Sw.rank_eq k f)
            go_wp2_with fail
            go_ret
            exact ⟨ret_i (by rw [HV.out, HC.out]), hR.2.2.1⟩
  · have HV : Hid (Sw.vRank l = -1) := Sw.vRank_no fun h => h9 h.1
    go_enter Try.func19, Try.ntmps19
    go_wp2_with fail
    go_ret
    exact ⟨ret_i HV.out.symm, Below.refl _ _⟩
end Go.Proofs.Ytooohgjmomhjoaa

