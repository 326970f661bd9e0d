/- FnLineSet: only one line changes. No conditions. -/
import Derived.Test.YtabcjobggceaaaaLw
import Derived.Test.YtabcjobggceaaaaDpL
import Derived.Test.YtabcjobggceaaaaLn
import Derived.Test.YtabcjobggceaaaaLine6
import Derived.Deep.RegionHeld3
import Derived.Deep.DeepCutAuto
namespace Go.Proofs.Ytabcjobggceaaaa
open Go.ChangeShapes Go.WideShapes Go.ChangeAt Go.RowKit
/-- a box at b with a valid graph behind it -/
def Bg (W : World) (b : Nat) (ad : Addr) (n c : Nat) (G : List Nat) : Prop := W.cell? ⟨b, 0, none⟩ = some (.slice (some ad) n c) ∧ b < W.heap.size ∧ RdG W W.heap.size ad G
theorem Bg.start {W : World} {ad : Addr} {n c : Nat} {G : List Nat} (hr : RdG W W.heap.size ad G) (t : TypeId) : Bg (W.alloc (.cells #[.slice (some ad) n c] t)) W.heap.size ad n c G := ⟨cell_new _ _ _, by simp, hr.at_ (below1 _)⟩
theorem Bg.next {W W' : World} {b n c : Nat} {ad : Addr} {G : List Nat} (h : Bg W b ad n c G) (hb : Below W.heap.size W W') : Bg W' b ad n c G :=
  ⟨(hb.cell (p := ⟨b, 0, none⟩) h.2.1).trans h.1, Nat.lt_of_lt_of_le h.2.1 hb.size, h.2.2.at_ hb⟩
/-- a box at b -/
def Be (W : World) (b : Nat) (v : Value) : Prop := W.cell? ⟨b, 0, none⟩ = some v ∧ b < W.heap.size
theorem Be.start (W : World) (v : Value) (t : TypeId) : Be (W.alloc (.cells #[v] t)) W.heap.size v := ⟨cell_new _ _ _, by simp⟩
theorem Be.next {W W' : World} {b : Nat} {v : Value} (h : Be W b v) (hb : Below W.heap.size W W') : Be W' b v := ⟨(hb.cell (p := ⟨b, 0, none⟩) h.2).trans h.1, Nat.lt_of_lt_of_le h.2 hb.size⟩
theorem Sw.degs_81 {G : List Nat} (hG : Sw.GVN G) : Sw.degs G G.length / 2 ≤ 81 := by
  have h : ∀ n, n ≤ 9 → Sw.degs G n ≤ 9 * n := by
    intro n
    induction n with
    | zero => intro _; exact Nat.le_refl 0
    | succ n ih =>
      intro hn
      have h1 := ih (by omega)
      have h2 : Sw.cnt (Sw.nb G n) ≤ G.length := Sw.cnt_le (hG.lt n) (by have := hG.le; omega)
      have h3 := hG.le
      have h4 : Sw.degs G (n + 1) = Sw.degs G n + Sw.cnt (Sw.nb G n) := rfl
      omega
  have h1 := h G.length hG.le
  have h2 := hG.le
  omega
theorem specLineG (G : List Nat) (hG : Sw.GVN G) (ad : Addr) (c a b : Nat) (on : Bool) (ha : a < G.length) (hb : b < G.length) (hab : a ≠ b) (w : World) (hr : RdG w w.heap.size ad G) :
    Calls Try.prog 26 #[.agg #[.slice (some ad) G.length c], .int .i64 a, .int .i64 b, .bool on] w fun e w' => ∃ (ad2 : Addr) (c2 : Nat), e = .returned (.tuple #[.agg #[.slice (some ad2) G.length c2], .bool true]) ∧ RdG w' w'.heap.size ad2 (Sw.lineG G a b on) ∧ Below w.heap.size w w' := by
  have h := specLineSet (Sw.toI G) (some ad) c a b on (by rw [Sw.toI_len]; have := hG.le; omega) w hr.toI
  rw [Sw.toI_len] at h
  refine h.mono ?_
  rintro e w' ⟨v, rfl, hO, hb'⟩
  rw [Sw.vLine_yes hG ha hb hab] at hO
  rw [Sw.vLineB_yes hG ha hb hab]
  obtain ⟨A2, c2, rfl, hr2⟩ := hO.rd
  have hK := Sw.lineG_valid (on := on) hG ha hb hab
  obtain ⟨ad2, rfl, hg2⟩ := RdG.of hK hr2
  refine ⟨ad2, c2, ?_, hg2, hb'⟩
  rw [Sw.toI_len, Sw.tab_len]
set_option maxHeartbeats 4000000 in
theorem lawLineSet (A : Option Addr) (n c : Nat) (hm : n ≤ maxLen) (hc : n ≤ c) (w : World) (hB : RdB w w.heap.size A n) :
    Calls Try.prog 7 #[.slice A n c] w fun e w' => e = .returned (.bool true) ∧ Below w.heap.size w w' := by
  unfold maxLen at hm
  by_cases hlen : (n : Int) ≤ 1048576
  · go_enter Try.func7, Try.ntmps7
    go_wp2_with fail
    refine (drawLineSet A n c (by omega) hc _ hB).mono ?_
    rintro e w1 ⟨A1, c1, l, p, q, on, rfl, h10, hr, hb⟩
    have HL := Lib.hid (Lw.start (c1 := c1) hr hb 25)
    clear hr hb
    have hI := fun W h => implLineSet l A1 c1 p q on (by omega) W h
    have hS := fun W h => specLineSet l A1 c1 p q on (by omega) W h
    rcases Sw.vLineB_cases l p q with hV | ⟨G, a, b, rfl, hG, rfl, rfl, ha, hbn, hab⟩
    · have hN := Sw.vLine_no (on := on) hV
      have hSG := fun A B c d W => sameGraph [] A B c d (by simp) W (fun k hk => by simp at hk) (fun k hk => by simp at hk)
      simp only [hV, hN] at hI hS
      simp only [List.length_nil] at hSG
      clear hV hN
      obtain ⟨_, hcb, hzb, hrb⟩ := HL.out
      go_wp2_with fail
      refine (hI _ hrb).mono ?_
      rintro e w2 ⟨v2, rfl, hO2, hb2⟩
      obtain ⟨A2, c2, rfl, _⟩ := hO2.rd
      have HL := Lib.hid ((HL.out.next hb2).next (below1 (.cells #[.slice A2 0 c2] 25)))
      have HX := Lib.hid (Be.start w2 (.slice A2 0 c2) 25)
      clear hcb hzb hrb hb2 hO2
      obtain ⟨_, hcb, hzb, hrb⟩ := HL.out
      obtain ⟨hcx, hzx⟩ := HX.out
      go_wp2_with fail
      refine (hS _ hrb).mono ?_
      rintro e w3 ⟨v3, rfl, hO3, hb3⟩
      obtain ⟨A3, c3, rfl, _⟩ := hO3.rd
      have HL := Lib.hid ((HL.out.next hb3).next (below1 (.cells #[.slice A3 0 c3] 25)))
      have HX := Lib.hid ((HX.out.next hb3).next (below1 (.cells #[.slice A3 0 c3] 25)))
      have HY := Lib.hid (Be.start w3 (.slice A3 0 c3) 25)
      clear hcb hzb hrb hb3 hO3 hcx hzx
      obtain ⟨_, hcb, hzb, hrb⟩ := HL.out
      obtain ⟨hcx, hzx⟩ := HX.out
      obtain ⟨hcy, hzy⟩ := HY.out
      go_wp2_with fail
      refine (hSG _ _ _ _ _).mono ?_
      rintro e w4 ⟨rfl, hb4⟩
      have HL := Lib.hid (HL.out.next hb4)
      have HX := Lib.hid (HX.out.next hb4)
      clear hcb hzb hrb hb4 hcx hzx hcy hzy HY
      obtain ⟨_, hcb, hzb, hrb⟩ := HL.out
      obtain ⟨hcx, hzx⟩ := HX.out
      go_wp2_with fail
      refine (alive _).mono ?_
      rintro e w5 ⟨rfl, hb5⟩
      have HL := Lib.hid (HL.out.next hb5)
      clear hcb hzb hrb hb5 hcx hzx
      go_wp2_with fail
      go_ret
      exact ⟨rfl, HL.out.1⟩
    · clear hI hS
      obtain ⟨ad, rfl, hL⟩ := HL.out.valid hG
      have HL := Lib.hid hL
      have hn9 := hG.le
      have hn1 := hG.pos
      clear hL
      rw [Sw.toI_len] at HL h10 ⊢
      have hI := fun W h => implLineG G hG ad c1 a b on ha hbn hab W h
      have hS := fun W h => specLineG G hG ad c1 a b on ha hbn hab W h
      have hK := Sw.lineG_valid (on := on) hG ha hbn hab
      have hKl := Sw.lineG_len G a b on
      have HLn := Lib.hid (Sw.line_lines hG ha hbn hab on)
      have hBk := Sw.line_back (on := on) hG ha hbn hab
      obtain ⟨K, hKe⟩ : ∃ K, K = Sw.lineG G a b on := ⟨_, rfl⟩
      rw [← hKe] at hI hS hK hKl HLn hBk
      have hSG := fun A B c d W h1 h2 => sameGraph (Sw.toI K) A B c d (by rw [Sw.toI_len, hKl]; omega) W h1 h2
      have hSH := fun A B c d W h1 h2 => sameGraph (Sw.toI G) A B c d (by rw [Sw.toI_len]; omega) W h1 h2
      have hB2 := fun A c W h => implLineG K hK A c b a ((Sw.nb G a).testBit b) (by omega) (by omega) (fun e => hab e.symm) W h
      have hLK := fun A c W h => implLinesG K hK A c W h
      have hLG := fun A c W h => implLinesG G hG A c W h
      have hGV := fun A c W h => implGV K hK A c W h
      have hdK := Sw.degs_81 hK
      have hdG := Sw.degs_81 hG
      rw [Sw.toI_len] at hSH
      rw [Sw.toI_len, hKl] at hSG
      rw [hBk] at hB2
      rw [hKl] at hB2 hLK hGV hdK HLn
      obtain ⟨P, hP⟩ : ∃ P, P = Sw.degs K G.length / 2 := ⟨_, rfl⟩
      obtain ⟨Q, hQ⟩ : ∃ Q, Q = Sw.degs G G.length / 2 := ⟨_, rfl⟩
      rw [← hP] at hLK HLn hdK
      rw [← hQ] at hLG HLn hdG
      have hx9 := Nat.lt_of_lt_of_le (hG.lt a) (Sw.pow_le9 hn9)
      have ha0 : (0 : Int) ≤ (a : Int) := by omega
      have haG : (a : Int) < (G.length : Int) := by omega
      have hs0 := shr_nonneg (Sw.nb G a) b
      clear hKe hBk hP hQ hKl
      obtain ⟨_, hcb, hzb, hrb⟩ := HL.out
      go_wp2_with fail
      refine (hI _ hrb).mono ?_
      rintro e w2 ⟨ad2, c2, rfl, hr2, hb2⟩
      have HL := Lib.hid ((HL.out.next hb2).next (below1 (.cells #[.slice (some ad2) G.length c2] 25)))
      have HX := Lib.hid (Bg.start (n := G.length) (c := c2) hr2 25)
      clear hcb hzb hrb hb2 hr2
      obtain ⟨_, hcb, hzb, hrb⟩ := HL.out
      obtain ⟨hcx, hzx, hrx⟩ := HX.out
      go_wp2_with fail
      refine (hS _ hrb).mono ?_
      rintro e w3 ⟨ad3, c3, rfl, hr3, hb3⟩
      have HL := Lib.hid ((HL.out.next hb3).next (below1 (.cells #[.slice (some ad3) G.length c3] 25)))
      have HX := Lib.hid ((HX.out.next hb3).next (below1 (.cells #[.slice (some ad3) G.length c3] 25)))
      have HY := Lib.hid (Bg.start (n := G.length) (c := c3) hr3 25)
      clear hcb hzb hrb hb3 hr3 hcx hzx hrx
      obtain ⟨_, hcb, hzb, hrb⟩ := HL.out
      obtain ⟨hcx, hzx, hrx⟩ := HX.out
      obtain ⟨hcy, hzy, hry⟩ := HY.out
      go_wp2_with fail
      refine (hSG _ _ _ _ _ hrx.toI hry.toI).mono ?_
      rintro e w4 ⟨rfl, hb4⟩
      have HL := Lib.hid (HL.out.next hb4)
      have HX := Lib.hid (HX.out.next hb4)
      clear hcb hzb hrb hb4 hcx hzx hrx hcy hzy hry HY
      obtain ⟨_, hcb, hzb, hrb⟩ := HL.out
      obtain ⟨hcx, hzx, hrx⟩ := HX.out
      have hck := hrb.2 a ha
      have HC : Hid (((Sw.nb G a).testBit b = true ∧ (Sw.nb G a : Int) / 2 ^ b % 2 = 1) ∨ ((Sw.nb G a).testBit b = false ∧ (Sw.nb G a : Int) / 2 ^ b % 2 = 0)) := by
        have := Sw.bit_eq (Sw.nb G a) b
        unfold Sw.bit at this
        rw [shr_nat]
        cases t : (Sw.nb G a).testBit b
        · rw [t] at this; simp at this; exact .inr ⟨rfl, by omega⟩
        · rw [t] at this; simp at this; exact .inl ⟨rfl, by omega⟩
      obtain ⟨X, hX⟩ : ∃ X, X = Sw.nb G a := ⟨_, rfl⟩
      rw [← hX] at HC hB2 hck hs0 hx9 HLn
      obtain ⟨was, hwas⟩ : ∃ was, was = X.testBit b := ⟨_, rfl⟩
      rw [← hwas] at HC hB2 HLn
      have hCA : (was = on ∧ (P : Int) - (Q : Int) = 0) ∨ (was = false ∧ on = true ∧ (P : Int) - (Q : Int) = 1) ∨ (was = true ∧ on = false ∧ (P : Int) - (Q : Int) = -1) := by
        obtain ⟨q1, q2, q3⟩ := HLn.out
        cases was <;> cases on
        · exact .inl ⟨rfl, by have := q1 rfl; omega⟩
        · exact .inr (.inl ⟨rfl, rfl, by have := q2 rfl rfl; omega⟩)
        · exact .inr (.inr ⟨rfl, rfl, by have := q3 rfl rfl; omega⟩)
        · exact .inl ⟨rfl, by have := q1 rfl; omega⟩
      clear hX hwas HLn
      have HB2 := Lib.hid hB2
      have HLK := Lib.hid hLK
      have HLG := Lib.hid hLG
      have HGV := Lib.hid hGV
      have HSH := Lib.hid hSH
      clear hB2 hLK hLG hGV hSH hSG hI hS
      have HC2 := HC.out
      clear HC
      rcases hCA with ⟨rfl, hsub⟩ | ⟨rfl, rfl, hsub⟩ | ⟨rfl, rfl, hsub⟩
      · cases was
        · have hm : (X : Int) / 2 ^ b % 2 = 0 := by rcases HC2 with ⟨e, _⟩ | ⟨_, e⟩; cases e; exact e
          clear HC2
          go_wp2_with fail
          refine (HB2.out _ _ _ hrx).mono ?_
          rintro e w5 ⟨ad5, c5, rfl, hr5, hb5⟩
          have HL := Lib.hid ((HL.out.next hb5).next (below1 (.cells #[.slice (some ad5) G.length c5] 25)))
          have HX := Lib.hid ((HX.out.next hb5).next (below1 (.cells #[.slice (some ad5) G.length c5] 25)))
          have HY := Lib.hid (Bg.start (n := G.length) (c := c5) hr5 25)
          clear hcb hzb hrb hb5 hr5 hcx hzx hrx hck
          obtain ⟨_, hcb, hzb, hrb⟩ := HL.out
          obtain ⟨hcx, hzx, hrx⟩ := HX.out
          go_wp2_with fail
          go_region_held3 (fun w' => w'.cell? ⟨w2.heap.size, 0, none⟩ = some (.slice (some ad2) G.length c2) ∧ w'.cell? ⟨w1.heap.size, 0, none⟩ = some (.slice (some ad) G.length c1)) (first | exact ⟨hcx, hcb⟩ | exact hS1 | exact hS2) (first | (have hq := hr_K1; clear hq; go_at_call 21; refine (HLG.out _ _ _ (by exact hr_K1)).mono ?_; rintro e Y2 ⟨rfl, z2⟩; have K2 := Lib.hid (K1.out.next (by exact z2)); have X2 := Lib.hid (X1.out.next (by exact z2)); have hS2 := And.intro X2.out.1 K2.out.2.1) | (go_at_call 21; refine (HLK.out _ _ _ (by exact hrx)).mono ?_; rintro e Y1 ⟨rfl, z1⟩; have K1 := Lib.hid (HL.out.next (undrew (by exact z1))); have X1 := Lib.hid (HX.out.next (undrew (by exact z1))); have hS1 := And.intro X1.out.1 K1.out.2.1; have hr_K1 := K1.out.2.2.2))
          have HL := K2
          have HX := X2
          have HY := Lib.hid ((HY.out.next (undrew (by exact z1))).next (by exact z2))
          clear K1 K2 X1 X2 z1 z2 hS1 hS2 hr_K1 hcb hzb hrb hcx hzx hrx
          rename (World.cell? _ _ = some _ ∧ World.cell? _ _ = some _) => hq
          clear hq
          obtain ⟨_, hcb, hzb, hrb⟩ := HL.out
          obtain ⟨hcx, hzx, hrx⟩ := HX.out
          obtain ⟨hcy, hzy, hry⟩ := HY.out
          go_wp2_with fail
          refine (HGV.out _ _ _ hrx).mono ?_
          rintro e w6 ⟨rfl, hb6⟩
          have HL := Lib.hid (HL.out.next hb6)
          have HY := Lib.hid (HY.out.next hb6)
          clear hcb hzb hrb hb6 hcx hzx hrx hcy hzy hry HX
          obtain ⟨_, hcb, hzb, hrb⟩ := HL.out
          obtain ⟨hcy, hzy, hry⟩ := HY.out
          go_wp2_with fail
          refine (HSH.out _ _ _ _ _ hry.toI hrb.toI).mono ?_
          rintro e w7 ⟨rfl, hb7⟩
          have HL := Lib.hid (HL.out.next hb7)
          clear hcb hzb hrb hb7 hcy hzy hry HY
          go_wp2_with fail
          go_ret
          exact ⟨rfl, HL.out.1⟩
        · have hm : (X : Int) / 2 ^ b % 2 = 1 := by rcases HC2 with ⟨_, e⟩ | ⟨e, _⟩; exact e; cases e
          clear HC2
          go_wp2_with fail
          refine (HB2.out _ _ _ hrx).mono ?_
          rintro e w5 ⟨ad5, c5, rfl, hr5, hb5⟩
          have HL := Lib.hid ((HL.out.next hb5).next (below1 (.cells #[.slice (some ad5) G.length c5] 25)))
          have HX := Lib.hid ((HX.out.next hb5).next (below1 (.cells #[.slice (some ad5) G.length c5] 25)))
          have HY := Lib.hid (Bg.start (n := G.length) (c := c5) hr5 25)
          clear hcb hzb hrb hb5 hr5 hcx hzx hrx hck
          obtain ⟨_, hcb, hzb, hrb⟩ := HL.out
          obtain ⟨hcx, hzx, hrx⟩ := HX.out
          go_wp2_with fail
          go_region_held3 (fun w' => w'.cell? ⟨w2.heap.size, 0, none⟩ = some (.slice (some ad2) G.length c2) ∧ w'.cell? ⟨w1.heap.size, 0, none⟩ = some (.slice (some ad) G.length c1)) (first | exact ⟨hcx, hcb⟩ | exact hS1 | exact hS2) (first | (have hq := hr_K1; clear hq; go_at_call 21; refine (HLG.out _ _ _ (by exact hr_K1)).mono ?_; rintro e Y2 ⟨rfl, z2⟩; have K2 := Lib.hid (K1.out.next (by exact z2)); have X2 := Lib.hid (X1.out.next (by exact z2)); have hS2 := And.intro X2.out.1 K2.out.2.1) | (go_at_call 21; refine (HLK.out _ _ _ (by exact hrx)).mono ?_; rintro e Y1 ⟨rfl, z1⟩; have K1 := Lib.hid (HL.out.next (undrew (by exact z1))); have X1 := Lib.hid (HX.out.next (undrew (by exact z1))); have hS1 := And.intro X1.out.1 K1.out.2.1; have hr_K1 := K1.out.2.2.2))
          have HL := K2
          have HX := X2
          have HY := Lib.hid ((HY.out.next (undrew (by exact z1))).next (by exact z2))
          clear K1 K2 X1 X2 z1 z2 hS1 hS2 hr_K1 hcb hzb hrb hcx hzx hrx
          rename (World.cell? _ _ = some _ ∧ World.cell? _ _ = some _) => hq
          clear hq
          obtain ⟨_, hcb, hzb, hrb⟩ := HL.out
          obtain ⟨hcx, hzx, hrx⟩ := HX.out
          obtain ⟨hcy, hzy, hry⟩ := HY.out
          go_wp2_with fail
          refine (HGV.out _ _ _ hrx).mono ?_
          rintro e w6 ⟨rfl, hb6⟩
          have HL := Lib.hid (HL.out.next hb6)
          have HY := Lib.hid (HY.out.next hb6)
          clear hcb hzb hrb hb6 hcx hzx hrx hcy hzy hry HX
          obtain ⟨_, hcb, hzb, hrb⟩ := HL.out
          obtain ⟨hcy, hzy, hry⟩ := HY.out
          go_wp2_with fail
          refine (HSH.out _ _ _ _ _ hry.toI hrb.toI).mono ?_
          rintro e w7 ⟨rfl, hb7⟩
          have HL := Lib.hid (HL.out.next hb7)
          clear hcb hzb hrb hb7 hcy hzy hry HY
          go_wp2_with fail
          go_ret
          exact ⟨rfl, HL.out.1⟩
      · have hm : (X : Int) / 2 ^ b % 2 = 0 := by rcases HC2 with ⟨e, _⟩ | ⟨_, e⟩; cases e; exact e
        clear HC2
        go_wp2_with fail
        refine (HB2.out _ _ _ hrx).mono ?_
        rintro e w5 ⟨ad5, c5, rfl, hr5, hb5⟩
        have HL := Lib.hid ((HL.out.next hb5).next (below1 (.cells #[.slice (some ad5) G.length c5] 25)))
        have HX := Lib.hid ((HX.out.next hb5).next (below1 (.cells #[.slice (some ad5) G.length c5] 25)))
        have HY := Lib.hid (Bg.start (n := G.length) (c := c5) hr5 25)
        clear hcb hzb hrb hb5 hr5 hcx hzx hrx hck
        obtain ⟨_, hcb, hzb, hrb⟩ := HL.out
        obtain ⟨hcx, hzx, hrx⟩ := HX.out
        go_wp2_with fail
        go_region_held3 (fun w' => w'.cell? ⟨w2.heap.size, 0, none⟩ = some (.slice (some ad2) G.length c2) ∧ w'.cell? ⟨w1.heap.size, 0, none⟩ = some (.slice (some ad) G.length c1)) (first | exact ⟨hcx, hcb⟩ | exact hS1 | exact hS2) (first | (have hq := hr_K1; clear hq; go_at_call 21; refine (HLG.out _ _ _ (by exact hr_K1)).mono ?_; rintro e Y2 ⟨rfl, z2⟩; have K2 := Lib.hid (K1.out.next (by exact z2)); have X2 := Lib.hid (X1.out.next (by exact z2)); have hS2 := And.intro X2.out.1 K2.out.2.1) | (go_at_call 21; refine (HLK.out _ _ _ (by exact hrx)).mono ?_; rintro e Y1 ⟨rfl, z1⟩; have K1 := Lib.hid (HL.out.next (undrew (by exact z1))); have X1 := Lib.hid (HX.out.next (undrew (by exact z1))); have hS1 := And.intro X1.out.1 K1.out.2.1; have hr_K1 := K1.out.2.2.2))
        have HL := K2
        have HX := X2
        have HY := Lib.hid ((HY.out.next (undrew (by exact z1))).next (by exact z2))
        clear K1 K2 X1 X2 z1 z2 hS1 hS2 hr_K1 hcb hzb hrb hcx hzx hrx
        rename (World.cell? _ _ = some _ ∧ World.cell? _ _ = some _) => hq
        clear hq
        obtain ⟨_, hcb, hzb, hrb⟩ := HL.out
        obtain ⟨hcx, hzx, hrx⟩ := HX.out
        obtain ⟨hcy, hzy, hry⟩ := HY.out
        go_wp2_with fail
        refine (HGV.out _ _ _ hrx).mono ?_
        rintro e w6 ⟨rfl, hb6⟩
        have HL := Lib.hid (HL.out.next hb6)
        have HY := Lib.hid (HY.out.next hb6)
        clear hcb hzb hrb hb6 hcx hzx hrx hcy hzy hry HX
        obtain ⟨_, hcb, hzb, hrb⟩ := HL.out
        obtain ⟨hcy, hzy, hry⟩ := HY.out
        go_wp2_with fail
        refine (HSH.out _ _ _ _ _ hry.toI hrb.toI).mono ?_
        rintro e w7 ⟨rfl, hb7⟩
        have HL := Lib.hid (HL.out.next hb7)
        clear hcb hzb hrb hb7 hcy hzy hry HY
        go_wp2_with fail
        go_ret
        exact ⟨rfl, HL.out.1⟩
      · have hm : (X : Int) / 2 ^ b % 2 = 1 := by rcases HC2 with ⟨_, e⟩ | ⟨e, _⟩; exact e; cases e
        clear HC2
        go_wp2_with fail
        refine (HB2.out _ _ _ hrx).mono ?_
        rintro e w5 ⟨ad5, c5, rfl, hr5, hb5⟩
        have HL := Lib.hid ((HL.out.next hb5).next (below1 (.cells #[.slice (some ad5) G.length c5] 25)))
        have HX := Lib.hid ((HX.out.next hb5).next (below1 (.cells #[.slice (some ad5) G.length c5] 25)))
        have HY := Lib.hid (Bg.start (n := G.length) (c := c5) hr5 25)
        clear hcb hzb hrb hb5 hr5 hcx hzx hrx hck
        obtain ⟨_, hcb, hzb, hrb⟩ := HL.out
        obtain ⟨hcx, hzx, hrx⟩ := HX.out
        go_wp2_with fail
        go_region_held3 (fun w' => w'.cell? ⟨w2.heap.size, 0, none⟩ = some (.slice (some ad2) G.length c2) ∧ w'.cell? ⟨w1.heap.size, 0, none⟩ = some (.slice (some ad) G.length c1)) (first | exact ⟨hcx, hcb⟩ | exact hS1 | exact hS2) (first | (have hq := hr_K1; clear hq; go_at_call 21; refine (HLG.out _ _ _ (by exact hr_K1)).mono ?_; rintro e Y2 ⟨rfl, z2⟩; have K2 := Lib.hid (K1.out.next (by exact z2)); have X2 := Lib.hid (X1.out.next (by exact z2)); have hS2 := And.intro X2.out.1 K2.out.2.1) | (go_at_call 21; refine (HLK.out _ _ _ (by exact hrx)).mono ?_; rintro e Y1 ⟨rfl, z1⟩; have K1 := Lib.hid (HL.out.next (undrew (by exact z1))); have X1 := Lib.hid (HX.out.next (undrew (by exact z1))); have hS1 := And.intro X1.out.1 K1.out.2.1; have hr_K1 := K1.out.2.2.2))
        have HL := K2
        have HX := X2
        have HY := Lib.hid ((HY.out.next (undrew (by exact z1))).next (by exact z2))
        clear K1 K2 X1 X2 z1 z2 hS1 hS2 hr_K1 hcb hzb hrb hcx hzx hrx
        rename (World.cell? _ _ = some _ ∧ World.cell? _ _ = some _) => hq
        clear hq
        obtain ⟨_, hcb, hzb, hrb⟩ := HL.out
        obtain ⟨hcx, hzx, hrx⟩ := HX.out
        obtain ⟨hcy, hzy, hry⟩ := HY.out
        go_wp2_with fail
        refine (HGV.out _ _ _ hrx).mono ?_
        rintro e w6 ⟨rfl, hb6⟩
        have HL := Lib.hid (HL.out.next hb6)
        have HY := Lib.hid (HY.out.next hb6)
        clear hcb hzb hrb hb6 hcx hzx hrx hcy hzy hry HX
        obtain ⟨_, hcb, hzb, hrb⟩ := HL.out
        obtain ⟨hcy, hzy, hry⟩ := HY.out
        go_wp2_with fail
        refine (HSH.out _ _ _ _ _ hry.toI hrb.toI).mono ?_
        rintro e w7 ⟨rfl, hb7⟩
        have HL := Lib.hid (HL.out.next hb7)
        clear hcb hzb hrb hb7 hcy hzy hry HY
        go_wp2_with fail
        go_ret
        exact ⟨rfl, HL.out.1⟩
  · go_enter Try.func7, Try.ntmps7
    go_wp2_with fail
    go_ret
    exact ⟨rfl, Below.refl _ _⟩
namespace rowLineSet
theorem contract (H : Type) (enc : TypeId × Value → H) (W : World) (base : Nat) (args : Array Value) (ds gs : List (DataW H)) (before : List MemPlace)
    (hval : ∀ (j : Nat) t v, Try.f7.params[j]? = some t → args[j]? = some v → Value.okWide Try.prog W .any base t v)
    (hW : DataW.Whole enc Try.prog Try.f7.params.toList Rows.fnLineSetSpec.vars false W args.toList ds gs before) :
    Calls Try.prog 7 args W fun e W' => ∃ v, e = .returned v ∧ Rows.fnLineSetSpec.post enc Try.prog Try.f7 false true false false W args v W' := by
  have hW' := hW
  obtain ⟨p, q, hA0, hV, rfl, _, _⟩ := hW
  obtain ⟨rfl, rfl⟩ := trodVars_none hV
  simp only [List.append_nil] at hW'
  have hlt : ∀ x ∈ p, x.block < W.heap.size := fun x hx => hW'.lt x hx
  have hA : DataW.TrodAll enc Try.prog W 0 (fun _ => true) true Try.f7.params.toList args.toList ds p := hA0
  rw [Try.params7] at hA hval
  obtain ⟨v0, vs0, d0, ds0, p0, q0, hargs, rfl, rfl, h0, r0⟩ := trodAll_cons hA
  obtain ⟨rfl, rfl, rfl⟩ := trodAll_nil r0
  obtain rfl : args = #[v0] := by cases args; simp_all
  obtain ⟨A0, n0, c0, rfl, m0, k0, g0⟩ := open_bytes (hval 0 _ v0 rfl rfl) h0 (fun x hx => hlt x (by simp [hx]))
  refine (lawLineSet A0 n0 c0 m0 k0 W g0).mono fun e W' ⟨he, hg⟩ => ?_
  subst he
  exact ⟨_, rfl, post_true rfl (by kernel_rfl) rfl (by kernel_rfl) hW' hA0 hg⟩
set_option maxRecDepth 100000 in
theorem lifted (os : Os) (started : os.Started) (H : Type) (enc : TypeId × Value → H) :
    ReturnsInHanded {} Try.checked os 7 .any (Rows.fnLineSetSpec.pre6 enc Try.prog Try.f7 Rows.fnLineSetRow.domain false) (Rows.fnLineSetSpec.post enc Try.prog Try.f7 false true false false) := by
  refine returnsInHanded_of_change (C := Try.checked) own_knob started (by kernel_rfl) Try.func7
    (ChangeSpec.witness6 (enc := enc) (C := Try.checked) false ⟨#[], #[.slice none 0 0], []⟩ 8 (by kernel_rfl) (by kernel_rfl) (by kernel_rfl) (by kernel_rfl)) ?_
  intro W base args ds gs before hval hW _ _
  exact contract H enc W base args ds gs before hval hW
end rowLineSet
theorem LineSet_holds : Rows.FnLineSetSaid :=
  OpenClaim.holds_of_wide 7 Try.f7 rfl rfl rfl rfl rfl rfl rfl ⟨rfl, rfl, rfl, rfl, rfl⟩ rfl rfl rfl rfl rfl (by kernel_rfl) Try.func7 (by kernel_rfl)
    (of_decide_eq_true (by kernel_rfl)) (by unfold Func.isWrapper; first | (rw [if_pos (by decide +kernel)]; kernel_rfl) | (rw [if_neg (by decide +kernel)]; exact ⟨rfl, rfl⟩))
    (fun os started H enc _ => rowLineSet.lifted os started H enc)
#print axioms LineSet_holds
end Go.Proofs.Ytabcjobggceaaaa

