/- The text of a graph, cut by the reference's rules, is the graph again: plain Lean. No conditions. -/
import Derived.Test.YtmghnfadgnolpaaDoorMath15
import Derived.Test.YtmghnfadgnolpaaDoorMath7
namespace Go.Proofs.YtmghnfadgnolpaaDoor.Sw
theorem piece_app {x z : List UInt8} {a b : Nat} (hb : b ≤ x.length) : piece (x ++ z) a b = piece x a b := by
  unfold piece
  by_cases ha : a ≤ x.length
  · rw [List.drop_append_of_le_length ha, List.take_append_of_le_length (by rw [List.length_drop]; omega)]
  · rw [show b - a = 0 by omega, List.take_zero, List.take_zero]
theorem gb_app {x z : List UInt8} {k : Nat} (hk : k < x.length) : gb (x ++ z) k = gb x k := by
  unfold gb; rw [List.getD_eq_getElem?_getD, List.getD_eq_getElem?_getD, List.getElem?_append_left hk]
theorem gb_app2 (x z : List UInt8) (k : Nat) : gb (x ++ z) (x.length + k) = gb z k := by
  unfold gb; rw [List.getD_eq_getElem?_getD, List.getD_eq_getElem?_getD, List.getElem?_append_right (by omega)]; congr 3; omega
theorem gb_mem {y : List UInt8} {k : Nat} (hk : k < y.length) : ∃ d, d ∈ y ∧ gb y k = d.toNat := ⟨y[k], List.getElem_mem hk, gb_of (List.getElem?_eq_getElem hk)⟩
theorem cutS_app (c : Nat) (x z : List UInt8) : ∀ k, k ≤ x.length → cutS c (x ++ z) k = cutS c x k := by
  intro k
  induction k with
  | zero => intro _; rfl
  | succ k ih =>
    intro hk
    rw [cutS_succ, cutS_succ, ih (by omega), gb_app (by omega), piece_app (by omega)]
theorem cutS_rest (c : Nat) (x y : List UInt8) (hy : ∀ d, d ∈ y → d.toNat ≠ c) : ∀ j, j ≤ y.length → cutS c (x ++ y) (x.length + j) = cutS c (x ++ y) x.length := by
  intro j
  induction j with
  | zero => intro _; rfl
  | succ j ih =>
    intro hj
    obtain ⟨d, hd, e⟩ := gb_mem (y := y) (k := j) (by omega)
    rw [← Nat.add_assoc, cutS_no (by rw [gb_app2, e]; exact hy d hd), ih (by omega)]
theorem cutL_one {c : Nat} {y : List UInt8} (hy : ∀ d, d ∈ y → d.toNat ≠ c) : cutL c y = [y] := by
  have h := cutS_rest c [] y hy y.length (Nat.le_refl _)
  have h2 : cutS c y y.length = ([], 0) := by
    have e : cutS c y y.length = cutS c y 0 := by simpa using h
    rw [e]; rfl
  unfold cutL
  rw [h2]
  simp [piece]
theorem cutL_snoc {c : Nat} {x y : List UInt8} {d : UInt8} (hd : d.toNat = c) (hy : ∀ d, d ∈ y → d.toNat ≠ c) : cutL c (x ++ d :: y) = cutL c x ++ [y] := by
  have e : x ++ d :: y = (x ++ [d]) ++ y := by simp
  have hr := cutS_rest c (x ++ [d]) y hy y.length (Nat.le_refl _)
  rw [← e] at hr
  have hx : cutS c (x ++ d :: y) x.length = cutS c x x.length := cutS_app c x _ _ (Nat.le_refl _)
  have hg : gb (x ++ d :: y) x.length = c := by
    have := gb_app2 x (d :: y) 0
    rw [Nat.add_zero] at this
    rw [this, ← hd]; rfl
  have hs := cutS_yes (l := x ++ d :: y) hg
  rw [hx, piece_app (Nat.le_refl _)] at hs
  have hl : (x ++ [d]).length = x.length + 1 := by simp
  have hl2 : (x ++ d :: y).length = x.length + 1 + y.length := by simp; omega
  rw [hl, hs] at hr
  have hp : piece (x ++ d :: y) (x.length + 1) (x.length + 1 + y.length) = y := by
    unfold piece
    rw [e, show x.length + 1 = (x ++ [d]).length from hl.symm, List.drop_left]
    rw [Nat.add_sub_cancel_left]; exact List.take_of_length_le (Nat.le_refl _)
  show (cutS c (x ++ d :: y) (x ++ d :: y).length).1 ++ [piece (x ++ d :: y) (cutS c (x ++ d :: y) (x ++ d :: y).length).2 (x ++ d :: y).length] = _
  rw [hl2, hr]
  show ((cutS c x x.length).1 ++ [piece x (cutS c x x.length).2 x.length]) ++ [piece (x ++ d :: y) (x.length + 1) (x.length + 1 + y.length)] = _
  rw [hp]; rfl
def lineT (p : Nat × Nat) : List UInt8 := dig p.1 ++ [45] ++ dig p.2
theorem dig_mem {d c : Nat} (hd : d < 10) (hc : c < 48 ∨ 57 < c) : ∀ u, u ∈ dig d → u.toNat ≠ c := by
  intro u hu
  unfold dig at hu
  rw [List.mem_singleton] at hu
  rw [hu, dig_nat hd]; omega
theorem lineT_mem {p : Nat × Nat} {c : Nat} (h1 : p.1 < 10) (h2 : p.2 < 10) (hc : c < 48 ∨ 57 < c) (hc2 : c ≠ 45) : ∀ u, u ∈ lineT p → u.toNat ≠ c := by
  intro u hu
  unfold lineT at hu
  rcases List.mem_append.1 hu with hu | hu
  · rcases List.mem_append.1 hu with hu | hu
    · exact dig_mem h1 hc u hu
    · rw [List.mem_singleton] at hu; rw [hu]; exact fun e => hc2 e.symm
  · exact dig_mem h2 hc u hu
theorem enc_head (h : List UInt8) : ∀ R : List (Nat × Nat), encS h R.reverse = (h ++ (encS [] R.reverse).1, (encS [] R.reverse).2)
  | [] => by show (h, true) = (h ++ [], true); rw [List.append_nil]
  | p :: R => by
    rw [List.reverse_cons, encS_snoc, encS_snoc, enc_head h R]
    unfold eStep
    by_cases q : (encS [] R.reverse).2 = true
    · simp [q]
    · simp [q]
theorem enc_flag : ∀ R : List (Nat × Nat), R ≠ [] → (encS [] R.reverse).2 = false
  | [], h => absurd rfl h
  | p :: R, _ => by rw [List.reverse_cons, encS_snoc]; rfl
theorem enc_text (p : Nat × Nat) (R : List (Nat × Nat)) : (encS [] (p :: R).reverse).1 = if R = [] then lineT p else (encS [] R.reverse).1 ++ 44 :: lineT p := by
  rw [List.reverse_cons, encS_snoc]
  unfold eStep lineT
  by_cases h : R = []
  · subst h; rfl
  · rw [if_neg h, enc_flag R h]; simp
theorem enc_cut : ∀ R : List (Nat × Nat), R ≠ [] → (∀ p ∈ R, p.1 < 10 ∧ p.2 < 10) → cutL 44 (encS [] R.reverse).1 = R.reverse.map lineT ∧ (encS [] R.reverse).1 ≠ []
  | [], h, _ => absurd rfl h
  | p :: R, _, hp => by
    have hpp := hp p (List.mem_cons_self ..)
    have hm : ∀ u, u ∈ lineT p → u.toNat ≠ 44 := lineT_mem hpp.1 hpp.2 (.inl (by decide)) (by decide)
    rw [enc_text]
    by_cases h : R = []
    · subst h
      rw [if_pos rfl]
      exact ⟨cutL_one hm, by unfold lineT dig; simp⟩
    · rw [if_neg h, cutL_snoc (c := 44) (d := 44) rfl hm, (enc_cut R h (fun q hq => hp q (List.mem_cons_of_mem _ hq))).1]
      exact ⟨by simp, by simp⟩
theorem enc_58 : ∀ R : List (Nat × Nat), (∀ p ∈ R, p.1 < 10 ∧ p.2 < 10) → ∀ u, u ∈ (encS [] R.reverse).1 → u.toNat ≠ 58
  | [], _ => by intro u hu; have : u ∈ ([] : List UInt8) := hu; simp at this
  | p :: R, hp => by
    have hpp := hp p (List.mem_cons_self ..)
    have hm : ∀ u, u ∈ lineT p → u.toNat ≠ 58 := lineT_mem hpp.1 hpp.2 (.inr (by decide)) (by decide)
    intro u hu
    rw [enc_text] at hu
    by_cases h : R = []
    · rw [if_pos h] at hu; exact hm u hu
    · rw [if_neg h] at hu
      rcases List.mem_append.1 hu with hu | hu
      · exact enc_58 R (fun q hq => hp q (List.mem_cons_of_mem _ hq)) u hu
      · rcases List.mem_cons.1 hu with rfl | hu
        · decide
        · exact hm u hu
theorem digL_dig {d : Nat} (h : d < 10) : digL (dig d) = (d : Int) := by
  have hg : gb (dig d) 0 = 48 + d := by rw [gb_of (c := UInt8.ofNat (48 + d)) rfl, dig_nat h]
  refine digL_in ⟨Nat.le_refl _, by show 1 ≤ 4; decide, .inl (Nat.le_refl _)⟩ ?_
  show dgS (dig d) (0 + 1) = _
  rw [dgS_yes (k := 0) (n := 0) rfl (by omega) (by omega), hg]
  congr 1; omega
theorem line_cut {p : Nat × Nat} (h1 : p.1 < 10) (h2 : p.2 < 10) : cutL 45 (lineT p) = [dig p.1, dig p.2] := by
  have e : lineT p = dig p.1 ++ 45 :: dig p.2 := by unfold lineT; simp
  rw [e, cutL_snoc (c := 45) (d := 45) rfl (dig_mem h2 (.inl (by decide))), cutL_one (dig_mem h1 (.inl (by decide)))]; rfl
def endsOf (ls : List (List UInt8)) (k : Nat) : List (List UInt8) := cutL 45 (ls.getD k [])
noncomputable def rdS (n : Nat) (ls : List (List UInt8)) : Nat → Option (List Int)
  | 0 => some (List.replicate n 0)
  | k + 1 => match rdS n ls k with
    | none => none
    | some g => if (endsOf ls k).length = 2 ∧ vLineB g (digL ((endsOf ls k).getD 0 [])) (digL ((endsOf ls k).getD 1 [])) = true then some (vLine g (digL ((endsOf ls k).getD 0 [])) (digL ((endsOf ls k).getD 1 [])) true) else none
theorem rdS_some {n : Nat} {ls : List (List UInt8)} {k : Nat} {g : List Int} (h : rdS n ls k = some g) : rdS n ls (k + 1) = if (endsOf ls k).length = 2 ∧ vLineB g (digL ((endsOf ls k).getD 0 [])) (digL ((endsOf ls k).getD 1 [])) = true then some (vLine g (digL ((endsOf ls k).getD 0 [])) (digL ((endsOf ls k).getD 1 [])) true) else none := by
  show (match rdS n ls k with | none => none | some g => _) = _
  rw [h]
theorem rdS_bad {n : Nat} {ls : List (List UInt8)} {k : Nat} {g : List Int} (h : rdS n ls k = some g) (hb : (endsOf ls k).length ≠ 2 ∨ vLineB g (digL ((endsOf ls k).getD 0 [])) (digL ((endsOf ls k).getD 1 [])) = false) : rdS n ls (k + 1) = none := by
  rw [rdS_some h, if_neg]
  rintro ⟨h1, h2⟩
  rcases hb with q | q
  · exact q h1
  · rw [q] at h2; cases h2
theorem rdS_ok {n : Nat} {ls : List (List UInt8)} {k : Nat} {g : List Int} (h : rdS n ls k = some g) (h1 : (endsOf ls k).length = 2) (h2 : vLineB g (digL ((endsOf ls k).getD 0 [])) (digL ((endsOf ls k).getD 1 [])) = true) : rdS n ls (k + 1) = some (vLine g (digL ((endsOf ls k).getD 0 [])) (digL ((endsOf ls k).getD 1 [])) true) := by
  rw [rdS_some h, if_pos ⟨h1, h2⟩]
theorem good_text {G : List Nat} (hG : GVN G) : ∃ (L : List (Nat × Nat)) (body : List UInt8), cutL 58 (gText G) = [dig G.length, body] ∧ (L = [] → body = []) ∧ (L ≠ [] → body ≠ [] ∧ cutL 44 body = L.map lineT) ∧ (∀ k, k ≤ L.length → ∃ g, rdS G.length (L.map lineT) k = some g) ∧ rdS G.length (L.map lineT) L.length = some (toI G) := by
  have hn := hG.le
  have hp := hG.pos
  obtain ⟨L, hL⟩ : ∃ L, L = lOut G G.length := ⟨_, rfl⟩
  have hmem : ∀ p, p ∈ L ↔ p.1 < p.2 ∧ p.2 < G.length ∧ (nb G p.1).testBit p.2 = true := fun p => by
    rw [hL, mem_lOut _ (Nat.le_refl _)]
    constructor
    · exact fun h => h.2
    · exact fun h => ⟨by omega, h⟩
  have hT : gText G = dig G.length ++ 58 :: (encS [] L).1 := by
    have := enc_head (dig G.length ++ [58]) L.reverse
    rw [List.reverse_reverse] at this
    unfold gText; rw [tOut_enc, ← hL, this]; simp
  have h10 : ∀ p ∈ L.reverse, p.1 < 10 ∧ p.2 < 10 := fun p q => by
    rw [List.mem_reverse] at q
    have := (hmem p).1 q
    omega
  have hne : ∀ e ∈ L, e.1 ≠ e.2 := fun e he => by have := ((hmem e).1 he).1; omega
  have hG2 : tab G.length (joinAll L) = G := by
    apply List.ext_getElem?
    intro k
    by_cases hk : k < G.length
    · rw [tab_get _ hk]
      have e : joinAll L k = nb G k := by
        apply Nat.eq_of_testBit_eq
        intro j
        rw [Bool.eq_iff_iff, tb_joinAll L hne k j, hmem, hmem]
        constructor
        · rintro (⟨_, _, q⟩ | ⟨_, _, q⟩)
          · exact q
          · rw [hG.sym j k]; exact q
        · intro q
          obtain ⟨b1, b2⟩ := edge_lt hG q
          rcases Nat.lt_trichotomy k j with c | c | c
          · exact .inl ⟨c, b2, q⟩
          · rw [c, hG.irr j] at q; cases q
          · exact .inr ⟨c, b1, by rw [hG.sym k j]; exact q⟩
      rw [e]
      unfold nb
      rw [List.getD_eq_getElem?_getD, List.getElem?_eq_getElem hk]; rfl
    · rw [List.getElem?_eq_none (by rw [tab_len]; omega), List.getElem?_eq_none (by omega)]
  have hst : ∀ k, k ≤ L.length → GVN (tab G.length (joinAll (L.take k))) ∧ rdS G.length (L.map lineT) k = some (toI (tab G.length (joinAll (L.take k)))) := by
    intro k
    induction k with
    | zero =>
      intro _
      have e : tab G.length (joinAll (L.take 0)) = List.replicate G.length 0 := by
        apply List.ext_getElem?
        intro j
        by_cases hj : j < G.length
        · rw [tab_get _ hj, List.getElem?_replicate, if_pos hj]; rfl
        · rw [List.getElem?_eq_none (by rw [tab_len]; omega), List.getElem?_eq_none (by simp; omega)]
      rw [e]
      exact ⟨zeros_valid hp hn, by rw [toI_zeros]; rfl⟩
    | succ k ih =>
      intro hk
      obtain ⟨hK, hr⟩ := ih (by omega)
      have hkL : k < L.length := by omega
      obtain ⟨p, e, hm⟩ : ∃ p, L[k]? = some p ∧ p ∈ L := ⟨L[k], List.getElem?_eq_getElem hkL, List.getElem_mem hkL⟩
      have hpp := h10 p (List.mem_reverse.2 hm)
      obtain ⟨q1, q2, _⟩ := (hmem p).1 hm
      have et : L.take (k + 1) = L.take k ++ [p] := by
        rw [List.take_add_one, e]; rfl
      have hen : endsOf (L.map lineT) k = [dig p.1, dig p.2] := by
        unfold endsOf
        rw [List.getD_eq_getElem?_getD, List.getElem?_map, e]
        exact line_cut hpp.1 hpp.2
      obtain ⟨K, hKe⟩ : ∃ K, K = tab G.length (joinAll (L.take k)) := ⟨_, rfl⟩
      have hKl : K.length = G.length := by rw [hKe, tab_len]
      rw [← hKe] at hK hr
      have ha : p.1 < K.length := by omega
      have hb : p.2 < K.length := by omega
      have hab : p.1 ≠ p.2 := by omega
      have hd0 : digL ((endsOf (L.map lineT) k).getD 0 []) = (p.1 : Int) := by rw [hen]; exact digL_dig hpp.1
      have hd1 : digL ((endsOf (L.map lineT) k).getD 1 []) = (p.2 : Int) := by rw [hen]; exact digL_dig hpp.2
      have hK2 : tab G.length (joinAll (L.take (k + 1))) = lineG K p.1 p.2 true := by
        unfold lineG
        rw [et, joinAll_snoc, hKl]
        apply tab_congr
        intro j hj
        rw [lineF_join _ hab]
        unfold lineF
        rw [hKe, nb_tab _ (by omega : p.2 < G.length), nb_tab _ (by omega : p.1 < G.length), nb_tab _ hj]
      rw [hK2]
      refine ⟨lineG_valid hK ha hb hab, ?_⟩
      rw [rdS_ok hr (by rw [hen]; rfl) (by rw [hd0, hd1]; exact vLineB_yes hK ha hb hab), hd0, hd1, vLine_yes hK ha hb hab]
      rfl
  refine ⟨L, (encS [] L).1, ?_, fun h => by rw [h]; rfl, fun h => ?_, fun k hk => ⟨_, (hst k hk).2⟩, ?_⟩
  · have h58 := enc_58 L.reverse h10
    rw [List.reverse_reverse] at h58
    rw [hT, cutL_snoc (c := 58) (d := 58) rfl h58, cutL_one (dig_mem (by omega) (.inr (by decide)))]; rfl
  · have hc := enc_cut L.reverse (by simpa using h) h10
    rw [List.reverse_reverse] at hc
    exact ⟨hc.2, hc.1⟩
  · have := (hst L.length (Nat.le_refl _)).2
    rw [List.take_length, hG2] at this
    exact this
/-- what is not a graph's text -/
theorem no_two {l : List UInt8} (h : (cutL 58 l).length ≠ 2) : ∀ G, GVN G → gText G ≠ l := fun G hG e => by
  obtain ⟨L, body, h1, _⟩ := good_text hG
  rw [e] at h1; rw [h1] at h; exact h rfl
theorem no_num {l : List UInt8} (h : digL ((cutL 58 l).getD 0 []) < 1 ∨ 9 < digL ((cutL 58 l).getD 0 [])) : ∀ G, GVN G → gText G ≠ l := fun G hG e => by
  obtain ⟨L, body, h1, _⟩ := good_text hG
  rw [e] at h1; rw [h1] at h
  have hd : digL ([dig G.length, body].getD 0 []) = (G.length : Int) := digL_dig (by have := hG.le; omega)
  rw [hd] at h
  have := hG.le
  have := hG.pos
  omega
theorem no_step {l : List UInt8} {n k : Nat} (hn : digL ((cutL 58 l).getD 0 []) = (n : Int)) (hb : (cutL 58 l).getD 1 [] ≠ []) (hk : k < (cutL 44 ((cutL 58 l).getD 1 [])).length) (h : rdS n (cutL 44 ((cutL 58 l).getD 1 [])) (k + 1) = none) : ∀ G, GVN G → gText G ≠ l := fun G hG e => by
  obtain ⟨L, body, h1, h2, h3, h4, _⟩ := good_text hG
  rw [e] at h1
  rw [h1] at hn hb hk h
  have hd : digL ([dig G.length, body].getD 0 []) = (G.length : Int) := digL_dig (by have := hG.le; omega)
  rw [hd] at hn
  have hn2 : G.length = n := by omega
  have hb2 : body ≠ [] := hb
  have hL : L ≠ [] := fun q => hb2 (h2 q)
  have hc := (h3 hL).2
  have hk2 : k < (cutL 44 body).length := hk
  have h' : rdS n (cutL 44 body) (k + 1) = none := h
  rw [hc] at hk2 h'
  rw [List.length_map] at hk2
  obtain ⟨g, hg⟩ := h4 (k + 1) hk2
  rw [hn2] at hg
  rw [hg] at h'; cases h'
theorem yes_end {l : List UInt8} {n k : Nat} {g : List Int} (hn : digL ((cutL 58 l).getD 0 []) = (n : Int)) (hb : ((cutL 58 l).getD 1 [] ≠ [] ∧ k = (cutL 44 ((cutL 58 l).getD 1 [])).length) ∨ ((cutL 58 l).getD 1 [] = [] ∧ k = 0)) (h : rdS n (cutL 44 ((cutL 58 l).getD 1 [])) k = some g) : ∀ G, GVN G → gText G = l → toI G = g := fun G hG e => by
  obtain ⟨L, body, h1, h2, h3, _, h5⟩ := good_text hG
  rw [e] at h1
  rw [h1] at hn hb h
  have hd : digL ([dig G.length, body].getD 0 []) = (G.length : Int) := digL_dig (by have := hG.le; omega)
  rw [hd] at hn
  have hn2 : G.length = n := by omega
  have h' : rdS n (cutL 44 body) k = some g := h
  rcases hb with ⟨hb, hk⟩ | ⟨hb, hk⟩
  · have hb2 : body ≠ [] := hb
    have hL : L ≠ [] := fun q => hb2 (h2 q)
    have hc := (h3 hL).2
    have hk2 : k = (cutL 44 body).length := hk
    rw [hc] at hk2 h'
    rw [List.length_map] at hk2
    rw [hk2, ← hn2, h5] at h'
    injection h'
  · have hb2 : body = [] := hb
    have hL : L = [] := by
      by_cases q : L = []
      · exact q
      · exact absurd hb2 (h3 q).1
    rw [hk] at h'
    rw [hL] at h5
    have h6 : rdS G.length [] 0 = some (toI G) := h5
    rw [hn2] at h6
    have e1 : some (List.replicate n (0 : Int)) = some g := h'
    have e2 : some (List.replicate n (0 : Int)) = some (toI G) := h6
    have := e2.symm.trans e1
    injection this
end Go.Proofs.YtmghnfadgnolpaaDoor.Sw

