/- What is read off the text of a graph: plain Lean. No conditions. -/
import Derived.Test.YtmghnfadgnolpaaDoorMath12
namespace Go.Proofs.YtmghnfadgnolpaaDoor.Sw
def lIn (G : List Nat) (a : Nat) (L : List (Nat × Nat)) (m : Nat) : List (Nat × Nat) := lp (fun j x => if (nb G a).testBit (a + 1 + j) = true then x ++ [(a, a + 1 + j)] else x) L m
def lOut (G : List Nat) (a : Nat) : List (Nat × Nat) := lp (fun i x => lIn G i x (G.length - (i + 1))) [] a
theorem lIn_succ (G : List Nat) (a : Nat) (L : List (Nat × Nat)) (m : Nat) : lIn G a L (m + 1) = if (nb G a).testBit (a + 1 + m) = true then lIn G a L m ++ [(a, a + 1 + m)] else lIn G a L m := rfl
theorem lOut_succ (G : List Nat) (a : Nat) : lOut G (a + 1) = lIn G a (lOut G a) (G.length - (a + 1)) := rfl
theorem mem_lIn {G : List Nat} {a : Nat} {L : List (Nat × Nat)} {p : Nat × Nat} : ∀ m, p ∈ lIn G a L m ↔ p ∈ L ∨ (p.1 = a ∧ a < p.2 ∧ p.2 < a + 1 + m ∧ (nb G a).testBit p.2 = true)
  | 0 => by
    show p ∈ L ↔ _
    constructor
    · exact .inl
    · rintro (h | ⟨_, h1, h2, _⟩)
      · exact h
      · omega
  | m + 1 => by
    rw [lIn_succ]
    by_cases hb : (nb G a).testBit (a + 1 + m) = true
    · rw [if_pos hb, List.mem_append, mem_lIn m, List.mem_singleton]
      constructor
      · rintro ((h | ⟨h1, h2, h3, h4⟩) | h)
        · exact .inl h
        · exact .inr ⟨h1, h2, by omega, h4⟩
        · subst h; exact .inr ⟨rfl, by show a < a + 1 + m; omega, by show a + 1 + m < _; omega, hb⟩
      · rintro (h | ⟨h1, h2, h3, h4⟩)
        · exact .inl (.inl h)
        · by_cases q : p.2 = a + 1 + m
          · exact .inr (Prod.ext h1 q)
          · exact .inl (.inr ⟨h1, h2, by omega, h4⟩)
    · rw [if_neg hb, mem_lIn m]
      constructor
      · rintro (h | ⟨h1, h2, h3, h4⟩)
        · exact .inl h
        · exact .inr ⟨h1, h2, by omega, h4⟩
      · rintro (h | ⟨h1, h2, h3, h4⟩)
        · exact .inl h
        · by_cases q : p.2 = a + 1 + m
          · rw [q] at h4; exact absurd h4 hb
          · exact .inr ⟨h1, h2, by omega, h4⟩
theorem mem_lOut {G : List Nat} {p : Nat × Nat} : ∀ a, a ≤ G.length → (p ∈ lOut G a ↔ p.1 < a ∧ p.1 < p.2 ∧ p.2 < G.length ∧ (nb G p.1).testBit p.2 = true)
  | 0, _ => by
    constructor
    · intro h; exact absurd h (by show p ∉ []; simp)
    · rintro ⟨h, _⟩; omega
  | a + 1, ha => by
    rw [lOut_succ, mem_lIn, mem_lOut a (by omega)]
    constructor
    · rintro (⟨h1, h2, h3, h4⟩ | ⟨h1, h2, h3, h4⟩)
      · exact ⟨by omega, h2, h3, h4⟩
      · rw [h1]; exact ⟨by omega, h2, by omega, h4⟩
    · rintro ⟨h1, h2, h3, h4⟩
      by_cases q : p.1 = a
      · rw [q] at h4 h2; exact .inr ⟨q, h2, by omega, h4⟩
      · exact .inl ⟨by omega, h2, h3, h4⟩
def eStep (s : List UInt8 × Bool) (p : Nat × Nat) : List UInt8 × Bool := ((if s.2 = true then s.1 else s.1 ++ [44]) ++ dig p.1 ++ [45] ++ dig p.2, false)
def encS (h : List UInt8) (L : List (Nat × Nat)) : List UInt8 × Bool := L.foldl eStep (h, true)
theorem encS_snoc (h : List UInt8) (L : List (Nat × Nat)) (p : Nat × Nat) : encS h (L ++ [p]) = eStep (encS h L) p := by unfold encS; rw [List.foldl_append]; rfl
theorem tIn_enc (h : List UInt8) (G : List Nat) (a : Nat) (L : List (Nat × Nat)) : ∀ m, tIn G a (encS h L) m = encS h (lIn G a L m)
  | 0 => rfl
  | m + 1 => by
    rw [tIn_succ, tIn_enc h G a L m, lIn_succ]
    unfold tStep
    by_cases hb : (nb G a).testBit (a + 1 + m) = true
    · rw [if_pos hb, if_pos hb, encS_snoc]; rfl
    · rw [if_neg hb, if_neg hb]
theorem tOut_enc (G : List Nat) : ∀ a, tOut G a = encS (dig G.length ++ [58]) (lOut G a)
  | 0 => rfl
  | a + 1 => by rw [tOut_succ, tOut_enc G a, tIn_enc, lOut_succ]
def encF (h : List UInt8) (L : List (Nat × Nat)) (s : List UInt8 × Bool) : Prop :=
  s.2 = decide (L = []) ∧ s.1.length = (if L = [] then 2 else 1 + 4 * L.length) ∧ s.1[0]? = h[0]? ∧ s.1[1]? = h[1]? ∧ ∀ i p, L[i]? = some p → s.1[2 + 4 * i]? = some (UInt8.ofNat (48 + p.1)) ∧ s.1[4 + 4 * i]? = some (UInt8.ofNat (48 + p.2))
theorem enc_facts (h : List UInt8) (hh : h.length = 2) : ∀ R : List (Nat × Nat), encF h R.reverse (encS h R.reverse)
  | [] => ⟨rfl, hh, rfl, rfl, fun i p e => by simp at e⟩
  | p :: R => by
    obtain ⟨h1, h2, h3, h4, h5⟩ := enc_facts h hh R
    rw [List.reverse_cons, encS_snoc]
    obtain ⟨t0, ht0⟩ : ∃ t0, t0 = (if (encS h R.reverse).2 = true then (encS h R.reverse).1 else (encS h R.reverse).1 ++ [44]) := ⟨_, rfl⟩
    have hs : eStep (encS h R.reverse) p = (t0 ++ [UInt8.ofNat (48 + p.1), 45, UInt8.ofNat (48 + p.2)], false) := by
      unfold eStep dig; rw [ht0]; simp
    have hlen : t0.length = 2 + 4 * R.length := by
      rw [ht0, h1]
      by_cases q : R.reverse = []
      · have q2 : R = [] := List.reverse_eq_nil_iff.1 q
        rw [if_pos (by simp [q]), h2, if_pos q, q2]; rfl
      · rw [if_neg (by simp [q]), List.length_append, h2, if_neg q, List.length_reverse]
        show _ + 1 = _; omega
    have hpre : ∀ k, k < (encS h R.reverse).1.length → t0[k]? = (encS h R.reverse).1[k]? := fun k hk => by
      rw [ht0]
      split
      · rfl
      · exact List.getElem?_append_left hk
    have hl2 : 2 ≤ (encS h R.reverse).1.length := by rw [h2]; split; exact Nat.le_refl _; rename_i q; have : R.reverse.length ≠ 0 := fun e => q (List.length_eq_zero_iff.1 e); omega
    rw [hs]
    have hpre2 : ∀ k, k < t0.length → (t0 ++ [UInt8.ofNat (48 + p.1), 45, UInt8.ofNat (48 + p.2)])[k]? = t0[k]? := fun k hk => List.getElem?_append_left hk
    have hpost : ∀ k, (t0 ++ [UInt8.ofNat (48 + p.1), 45, UInt8.ofNat (48 + p.2)])[t0.length + k]? = [UInt8.ofNat (48 + p.1), 45, UInt8.ofNat (48 + p.2)][k]? := fun k => by
      rw [List.getElem?_append_right (by omega)]; congr 1; omega
    refine ⟨by simp, ?_, ?_, ?_, ?_⟩
    · rw [if_neg (by simp), List.length_append, List.length_append, List.length_reverse, hlen]; show _ + 3 = 1 + 4 * (R.length + 1); omega
    · show (t0 ++ _)[0]? = _
      rw [hpre2 0 (by omega), hpre 0 (by omega), h3]
    · show (t0 ++ _)[1]? = _
      rw [hpre2 1 (by omega), hpre 1 (by omega), h4]
    · intro i q e
      show (t0 ++ _)[2 + 4 * i]? = _ ∧ (t0 ++ _)[4 + 4 * i]? = _
      by_cases hi : i < R.length
      · rw [List.getElem?_append_left (by rw [List.length_reverse]; exact hi)] at e
        have := h5 i q e
        have hl : (encS h R.reverse).1.length = 1 + 4 * R.length := by rw [h2, if_neg (by intro e; have hz : R.length = 0 := (by have := congrArg List.length e; rw [List.length_reverse] at this; exact this); omega), List.length_reverse]
        rw [hpre2 _ (by omega), hpre2 _ (by omega), hpre _ (by omega), hpre _ (by omega)]
        exact this
      · have hi2 : i = R.length := by
          have : i < (R.reverse ++ [p]).length := (List.getElem?_eq_some_iff.1 e).1
          rw [List.length_append, List.length_reverse] at this
          simp at this; omega
        subst hi2
        rw [List.getElem?_append_right (by rw [List.length_reverse]; omega), List.length_reverse, Nat.sub_self] at e
        simp at e
        subst e
        have a1 := hpost 0
        have a2 := hpost 2
        rw [hlen] at a1 a2
        exact ⟨by rw [show 2 + 4 * R.length = 2 + 4 * R.length + 0 from rfl, a1]; rfl, by rw [show 4 + 4 * R.length = 2 + 4 * R.length + 2 by omega, a2]; rfl⟩
/-- a byte of the text; the points of a line; the lines so far -/
def gb (s : List UInt8) (k : Nat) : Nat := (s.getD k 0).toNat
theorem gb_of {s : List UInt8} {k : Nat} {c : UInt8} (h : s[k]? = some c) : gb s k = c.toNat := by unfold gb; rw [List.getD_eq_getElem?_getD, h]; rfl
theorem gb_255 (s : List UInt8) (k : Nat) : gb s k ≤ 255 := by unfold gb; have := (s.getD k 0).toNat_lt; omega
def pA (s : List UInt8) (i : Nat) : Int := (gb s (2 + 4 * i) : Int) - 48
def pB (s : List UInt8) (i : Nat) : Int := (gb s (4 + 4 * i) : Int) - 48
def pF (s : List UInt8) (i : Nat) : Nat → Nat := lp (fun i f => join f (pA s i).toNat (pB s i).toNat) (fun _ => 0) i
theorem pF_succ (s : List UInt8) (i : Nat) : pF s (i + 1) = join (pF s i) (pA s i).toNat (pB s i).toNat := rfl
theorem dig_nat {d : Nat} (h : d < 10) : (UInt8.ofNat (48 + d)).toNat = 48 + d := by rw [UInt8.toNat_ofNat']; omega
/-- what a good text holds -/
def okAt (s : List UInt8) (n i : Nat) : Prop := 2 + 4 * i + 3 ≤ s.length ∧ 0 ≤ pA s i ∧ pA s i < pB s i ∧ pB s i < (n : Int)
theorem parse_good {G : List Nat} (hG : GVN G) : 2 ≤ (gText G).length ∧ gb (gText G) 0 = 48 + G.length ∧ gb (gText G) 1 = 58 ∧ (∀ i, 2 + 4 * i < (gText G).length → okAt (gText G) G.length i) ∧
    ∀ i, (gText G).length ≤ 2 + 4 * i → (i = 0 ∨ 2 + 4 * (i - 1) < (gText G).length) → tab G.length (pF (gText G) i) = G := by
  have hn := hG.le
  have hp := hG.pos
  obtain ⟨L, hL⟩ : ∃ L, L = lOut G G.length := ⟨_, rfl⟩
  have hmem : ∀ p, p ∈ L ↔ p.1 < p.2 ∧ p.2 < G.length ∧ (nb G p.1).testBit p.2 = true := fun p => by
    rw [hL, mem_lOut _ (Nat.le_refl _)]
    constructor
    · exact fun h => h.2
    · exact fun h => ⟨by omega, h⟩
  have hF := enc_facts (dig G.length ++ [58]) rfl L.reverse
  rw [List.reverse_reverse] at hF
  have hT : gText G = (encS (dig G.length ++ [58]) L).1 := by unfold gText; rw [tOut_enc, hL]
  unfold encF at hF
  rw [← hT] at hF
  obtain ⟨s, hs⟩ : ∃ s, s = gText G := ⟨_, rfl⟩
  obtain ⟨_, h2, h3, h4, h5⟩ := hF
  rw [← hs] at h2 h3 h4 h5 ⊢
  have hget : ∀ i, i < L.length → ∃ p, L[i]? = some p ∧ p ∈ L := fun i hi => ⟨L[i], List.getElem?_eq_getElem hi, List.getElem_mem hi⟩
  have hpp : ∀ i p, L[i]? = some p → pA s i = (p.1 : Int) ∧ pB s i = (p.2 : Int) := fun i p e => by
    have hm : p ∈ L := List.mem_of_getElem? e
    obtain ⟨q1, q2, _⟩ := (hmem p).1 hm
    obtain ⟨e1, e2⟩ := h5 i p e
    unfold pA pB
    rw [gb_of e1, gb_of e2, dig_nat (by omega), dig_nat (by omega)]
    omega
  have hlen : ∀ i, 2 + 4 * i < s.length ↔ i < L.length := fun i => by
    rw [h2]
    by_cases q : L = []
    · rw [if_pos q, q]; simp; 
    · rw [if_neg q]; omega
  refine ⟨?_, ?_, ?_, ?_, ?_⟩
  · rw [h2]; split
    · exact Nat.le_refl _
    · rename_i q; have : L.length ≠ 0 := fun e => q (List.length_eq_zero_iff.1 e); omega
  · rw [gb_of (c := UInt8.ofNat (48 + G.length)) (by rw [h3]; rfl), dig_nat (by omega)]
  · rw [gb_of (c := 58) (by rw [h4]; rfl)]; rfl
  · intro i hi
    have hiL := (hlen i).1 hi
    obtain ⟨p, e, hm⟩ := hget i hiL
    obtain ⟨q1, q2, _⟩ := (hmem p).1 hm
    obtain ⟨e1, e2⟩ := hpp i p e
    refine ⟨?_, ?_⟩
    · rw [h2, if_neg (by intro q; rw [q] at hiL; simp at hiL)]; omega
    · rw [e1, e2]; omega
  · intro i hi hi2
    have hi3 : i = L.length := by
      have a1 := hlen i
      have a2 := hlen (i - 1)
      rcases hi2 with rfl | hi2
      · have : ¬ (0 < L.length) := fun q => by have := a1.2 q; omega
        omega
      · have b1 := a2.1 hi2
        have b2 : ¬ i < L.length := fun q => by have := a1.2 q; omega
        omega
    have hpf : ∀ k, k ≤ L.length → pF s k = joinAll (L.take k) := by
      intro k
      induction k with
      | zero => intro _; rfl
      | succ k ih =>
        intro hk
        obtain ⟨p, e, _⟩ := hget k (by omega)
        obtain ⟨e1, e2⟩ := hpp k p e
        have et : L.take (k + 1) = L.take k ++ [p] := by
          rw [List.take_add_one, e]; rfl
        rw [pF_succ, ih (by omega), et, joinAll_snoc, e1, e2]; rfl
    rw [hi3, hpf _ (Nat.le_refl _), List.take_length]
    have hne : ∀ e ∈ L, e.1 ≠ e.2 := fun e he => by have := ((hmem e).1 he).1; omega
    apply List.ext_getElem?
    intro k
    by_cases hk : k < G.length
    · rw [tab_get _ hk]
      have e : joinAll L k = nb G k := by
        apply Nat.eq_of_testBit_eq
        intro j
        rw [Bool.eq_iff_iff, tb_joinAll L hne k j, hmem, hmem]
        constructor
        · rintro (⟨_, _, q⟩ | ⟨_, _, q⟩)
          · exact q
          · rw [hG.sym j k]; exact q
        · intro q
          obtain ⟨b1, b2⟩ := edge_lt hG q
          rcases Nat.lt_trichotomy k j with c | c | c
          · exact .inl ⟨c, b2, q⟩
          · rw [c, hG.irr j] at q; cases q
          · exact .inr ⟨c, b1, by rw [hG.sym k j]; exact q⟩
      rw [e]
      unfold nb
      rw [List.getD_eq_getElem?_getD, List.getElem?_eq_getElem hk]; rfl
    · rw [List.getElem?_eq_none (by rw [tab_len]; omega), List.getElem?_eq_none (by omega)]
end Go.Proofs.YtmghnfadgnolpaaDoor.Sw

