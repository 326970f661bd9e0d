/- Plain laws of parts, of sets whose points are alone, of covers and of two colours. No program in sight. No conditions. -/
import Derived.Test.YtlfigdpgdkbknaaMath7
namespace Go.Proofs.Ytlfigdpgdkbknaa.Sw
/-! ### parts -/
theorem bes_more {G K : List Nat} (h : ∀ k j, (nb G k).testBit j = true → (nb K k).testBit j = true) (s : Nat) : Sub (bes G s) (bes K s) := fun j hj => by
  obtain ⟨i, h1, h2⟩ := tb_bes.1 hj
  exact tb_bes.2 ⟨i, h1, h i j h2⟩
theorem pt_more {G K : List Nat} (hG : GVN G) (hK : GVN K) (hl : G.length = K.length) (h : ∀ k j, (nb G k).testBit j = true → (nb K k).testBit j = true) {k : Nat} (hk : k < G.length) : Sub (pt G k) (pt K k) :=
  pt_least hG hk (pt_self hK (by omega)) fun j hj => pt_closed hK (by omega) j (bes_more h _ j hj)
/-- with a line more a graph that hangs together does -/
theorem whole_more {G : List Nat} (hG : GVN G) {a b : Nat} (ha : a < G.length) (hb : b < G.length) (hab : a ≠ b) (h : pt G 0 = 2 ^ G.length - 1) : pt (lineG G a b true) 0 = 2 ^ (lineG G a b true).length - 1 := by
  have hK := lineG_valid (on := true) hG ha hb hab
  have hs := pt_more hG hK (lineG_len _ _ _ _).symm (fun k j hkj => by
    rw [tb_lineG hG ha hb hab]
    split
    · rfl
    · exact hkj) hG.pos
  rw [h] at hs
  have h1 := hs.le
  have h2 := pt_lt hK hK.pos
  rw [lineG_len] at h2 ⊢
  omega
theorem bes_zeros (n s : Nat) : bes (List.replicate n 0) s = 0 := by
  apply Nat.eq_of_testBit_eq
  intro j
  rw [Nat.zero_testBit]
  cases q : (bes (List.replicate n 0) s).testBit j
  · rfl
  · obtain ⟨i, _, h2⟩ := tb_bes.1 q
    rw [nb_zeros] at h2; simp at h2
/-- without lines -/
theorem whole_zeros {n : Nat} (h1 : 1 ≤ n) : (pt (List.replicate n 0) 0 = 2 ^ (List.replicate n 0).length - 1) ↔ n = 1 := by
  have e : pt (List.replicate n 0) 0 = 2 ^ 0 := by
    unfold pt
    refine part_done ?_
    unfold step
    rw [bes_zeros, Nat.or_zero]
  rw [e, List.length_replicate]
  constructor
  · intro h
    have hp : 2 ^ n = 2 ^ 1 := by have := two_pow_pos' n; omega
    exact (Nat.pow_right_inj (by decide)).1 hp
  · intro h; subst h; rfl
/-! ### alone -/
theorem sub_pow {S k : Nat} (h : S.testBit k = true) : S - 2 ^ k = S ^^^ 2 ^ k ∧ 2 ^ k ≤ S := by
  have e : S &&& 2 ^ k = 2 ^ k := by
    apply Nat.eq_of_testBit_eq
    intro j
    rw [Nat.testBit_and, tb_two]
    by_cases q : k = j
    · subst q; simp [h]
    · simp [q]
  have h1 := add_and_xor S (2 ^ k)
  rw [e] at h1
  have h2 := and_le_l S (2 ^ k)
  rw [e] at h2
  omega
theorem tb_less {S k : Nat} (h : S.testBit k = true) (j : Nat) : (S - 2 ^ k).testBit j = (S.testBit j && decide (j ≠ k)) := by
  rw [(sub_pow h).1, Nat.testBit_xor, tb_two]
  by_cases q : j = k
  · subst q; simp [h]
  · have : ¬ k = j := fun e => q e.symm
    simp [q, this]
theorem alone_sub {G : List Nat} {a b : Nat} (h : Sub a b) (hb : bes G b &&& b = 0) : bes G a &&& a = 0 := by
  rw [alone_iff] at hb ⊢
  exact fun i j hi hj => hb i j (h i hi) (h j hj)
theorem alone_less {G : List Nat} {S k : Nat} (h : S.testBit k = true) (hb : bes G S &&& S = 0) : bes G (S - 2 ^ k) &&& (S - 2 ^ k) = 0 :=
  alone_sub (fun j hj => by rw [tb_less h, Bool.and_eq_true] at hj; exact hj.1) hb
theorem alone_line {G : List Nat} {S k : Nat} (h : S.testBit k = true) (hb : bes G S &&& S = 0) : nb G k &&& S = 0 := by
  rw [alone_iff] at hb
  apply Nat.eq_of_testBit_eq
  intro j
  rw [Nat.zero_testBit, Nat.testBit_and]
  cases q : S.testBit j
  · simp
  · rw [hb k j h q]; rfl
theorem alone_le_am {G : List Nat} {S : Nat} (hS : S < 2 ^ G.length) (hb : bes G S &&& S = 0) : cnt S ≤ am G := amK_ge hb hS
theorem cnt_less {S k n : Nat} (hS : S < 2 ^ n) (hn : n ≤ 9) (hk : k < n) (h : S.testBit k = true) : cnt S = cnt (S - 2 ^ k) + 1 := by
  have h1 : S - 2 ^ k < 2 ^ n := Nat.lt_of_le_of_lt (Nat.sub_le _ _) hS
  have h2 : (S - 2 ^ k).testBit k = false := by rw [tb_less h]; simp
  have h3 := cnt_put h1 hk hn h2
  have e : S - 2 ^ k ||| 2 ^ k = S := by
    rw [← add_pow_or h2]
    have := (sub_pow h).2
    omega
  rw [e] at h3; exact h3
theorem am_pos {G : List Nat} (hG : GVN G) : 1 ≤ am G := by
  have h0 : bes G (2 ^ 0) &&& 2 ^ 0 = 0 := by
    rw [alone_iff]
    intro a b ha hb
    rw [tb_two, decide_eq_true_eq] at ha hb
    subst ha hb; exact hG.irr 0
  have := alone_le_am (two_lt hG.pos) h0
  rw [cnt_two (by decide)] at this; exact this
theorem am_le {G : List Nat} (hG : GVN G) : am G ≤ G.length := by
  obtain ⟨s, h1, _, h3⟩ := am_is (G := G)
  rw [← h3]; exact cnt_le h1 (by have := hG.le; omega)
/-- a further line: as great, or less by one -/
theorem am_line {G : List Nat} (hG : GVN G) {a b : Nat} (ha : a < G.length) (hb : b < G.length) (hab : a ≠ b) : am (lineG G a b true) = am G ∨ am (lineG G a b true) + 1 = am G := by
  have hK := lineG_valid (on := true) hG ha hb hab
  have h1 : am (lineG G a b true) ≤ am G := by
    obtain ⟨s, q1, q2, q3⟩ := am_is (G := lineG G a b true)
    rw [lineG_len] at q1
    rw [← q3]
    refine alone_le_am q1 ?_
    rw [alone_iff] at q2 ⊢
    intro i j hi hj
    have := q2 i j hi hj
    rw [tb_lineG hG ha hb hab] at this
    split at this
    · cases this
    · exact this
  have h2 : am G ≤ am (lineG G a b true) + 1 := by
    obtain ⟨s, q1, q2, q3⟩ := am_is (G := G)
    by_cases q : s.testBit a = true ∧ s.testBit b = true
    · have e := cnt_less q1 hG.le hb q.2
      have hal : bes (lineG G a b true) (s - 2 ^ b) &&& (s - 2 ^ b) = 0 := by
        rw [alone_iff] at q2 ⊢
        intro i j hi hj
        rw [tb_less q.2, Bool.and_eq_true, decide_eq_true_eq] at hi hj
        rw [tb_lineG hG ha hb hab, if_neg (by rintro (⟨_, e⟩ | ⟨e, _⟩); exact hj.2 e; exact hi.2 e)]
        exact q2 i j hi.1 hj.1
      have := alone_le_am (by rw [lineG_len]; exact Nat.lt_of_le_of_lt (Nat.sub_le _ _) q1) hal
      omega
    · have hal : bes (lineG G a b true) s &&& s = 0 := by
        rw [alone_iff] at q2 ⊢
        intro i j hi hj
        rw [tb_lineG hG ha hb hab, if_neg (by rintro (⟨rfl, rfl⟩ | ⟨rfl, rfl⟩); exact q ⟨hi, hj⟩; exact q ⟨hj, hi⟩)]
        exact q2 i j hi hj
      have := alone_le_am (by rw [lineG_len]; exact q1) hal
      omega
  omega
/-! ### covers -/
/-- an end of every line is in s -/
def covK (G : List Nat) (s k : Nat) : Bool := lp (fun j x => x && (s.testBit j || decide (nb G j &&& rest G s = 0))) true k
theorem covK_succ (G : List Nat) (s k : Nat) : covK G s (k + 1) = (covK G s k && (s.testBit k || decide (nb G k &&& rest G s = 0))) := rfl
theorem covK_iff {G : List Nat} {s : Nat} : ∀ k, covK G s k = true ↔ ∀ j, j < k → s.testBit j = true ∨ nb G j &&& rest G s = 0
  | 0 => ⟨fun _ j hj => by omega, fun _ => rfl⟩
  | k + 1 => by
    rw [covK_succ, Bool.and_eq_true, covK_iff k, Bool.or_eq_true, decide_eq_true_eq]
    constructor
    · rintro ⟨h1, h2⟩ j hj
      rcases Nat.lt_succ_iff_lt_or_eq.1 hj with q | q
      · exact h1 j q
      · subst q; exact h2
    · exact fun h => ⟨fun j hj => h j (by omega), h k (by omega)⟩
theorem cov_alone {G : List Nat} (hG : GVN G) {s : Nat} (hs : s < 2 ^ G.length) : covK G s G.length = true ↔ bes G (rest G s) &&& rest G s = 0 := by
  have hr : ∀ k, (rest G s).testBit k = (decide (k < G.length) && !s.testBit k) := fun k => tb_rest hs k
  rw [covK_iff, alone_iff]
  constructor
  · intro h a b ha hb
    rw [hr, Bool.and_eq_true, decide_eq_true_eq, Bool.not_eq_true'] at ha
    rcases h a ha.1 with q | q
    · rw [ha.2] at q; cases q
    · cases e : (nb G a).testBit b
      · rfl
      · have : (nb G a &&& rest G s).testBit b = true := by rw [Nat.testBit_and, e, hb]; rfl
        rw [q] at this; simp at this
  · intro h j hj
    cases q : s.testBit j
    · refine .inr ?_
      apply Nat.eq_of_testBit_eq
      intro i
      rw [Nat.zero_testBit, Nat.testBit_and]
      cases p : (rest G s).testBit i
      · simp
      · rw [h j i (by rw [hr, q]; simp [hj]) p]; rfl
    · exact .inl rfl
theorem rest_rest {G : List Nat} {s : Nat} (hs : s < 2 ^ G.length) : rest G (rest G s) = s := by unfold rest; omega
theorem cnt_rest' {G : List Nat} (hG : GVN G) {s : Nat} (hs : s < 2 ^ G.length) : cnt s + cnt (rest G s) = G.length := cnt_rest hs (by have := hG.le; omega)
/-- no cover has fewer points -/
theorem cov_least {G : List Nat} (hG : GVN G) {s : Nat} (hs : s < 2 ^ G.length) (h : covK G s G.length = true) : G.length ≤ cnt s + am G := by
  have h1 := alone_le_am (rest_lt G s) ((cov_alone hG hs).1 h)
  have h2 := cnt_rest' hG hs
  omega
/-- one has as many -/
theorem cov_some {G : List Nat} (hG : GVN G) : ∃ s, s < 2 ^ G.length ∧ covK G s G.length = true ∧ cnt s + am G = G.length := by
  obtain ⟨s, h1, h2, h3⟩ := am_is (G := G)
  refine ⟨rest G s, rest_lt G s, (cov_alone hG (rest_lt G s)).2 (by rw [rest_rest h1]; exact h2), ?_⟩
  have := cnt_rest' hG h1
  omega
/-- two colours -/
theorem cov_two {G : List Nat} (hG : GVN G) {C : Nat} (h : Col G C) : G.length ≤ 2 * am G := by
  obtain ⟨h1, h2⟩ := (col_iff hG h.1).1 h
  have q1 := alone_le_am h.1 h1
  have q2 := alone_le_am (rest_lt G C) h2
  have := cnt_rest' hG h.1
  omega
end Go.Proofs.Ytlfigdpgdkbknaa.Sw

