/- PartOf, Whole and Alone of the program and of the reference, each by its contract. No conditions. -/
import Derived.Test.YtakgcdiofpijmaaBes
import Derived.WalkMore
import Derived.ScopeJumps
import Derived.Deep.RegionHeld3
import Derived.Deep.DeepCutAuto
namespace Go.Proofs.Ytakgcdiofpijmaa
open Go.RowKit
/-- what holds at each jump back of partFrom -/
def PFJ (G : List Nat) (ad : Addr) (c p : Nat) (w : World) (a' : Act) (w' : World) : Prop :=
  ∃ (s : Nat) (u6 u7 u8 u9 u10 u11 u12 u13 u14 u15 u16 u17 : Value), a' = { tmps := #[.agg #[.slice (some ad) G.length c], .int .i64 p, .pointer (some ⟨w.heap.size, 0, none⟩), undef, .int .i64 0, .int .i64 s, u6, u7, u8, u9, u10, u11, u12, u13, u14, u15, u16, u17, undef], defers := [] } ∧
    s < 2 ^ G.length ∧ Sw.part G s = Sw.pt G p ∧ Below w.heap.size w w' ∧ w'.cell? ⟨w.heap.size, 0, none⟩ = some (.slice (some ad) G.length c) ∧ w.heap.size < w'.heap.size
set_option maxRecDepth 100000 in
theorem partFrom (G : List Nat) (hG : Sw.GVN G) (ad : Addr) (c p : Nat) (hp : p < G.length) (w : World) (hr : RdG w w.heap.size ad G) :
    Calls Try.prog 47 #[.agg #[.slice (some ad) G.length c], .int .i64 p] w fun e w' => e = .returned (.int .i64 (Sw.pt G p : Nat)) ∧ Below w.heap.size w w' := by
  have hn := hG.le
  have hpp : (2 : Int) ^ p ≤ 512 := pow9 (by omega)
  have hpp1 := pow1 p
  go_enter Try.func47, Try.ntmps47
  go_wp2_with fail
  refine wp_scope_jumps 0 (PFJ G ad c p w) (fun a' _ => (1024 - intOf (a'.tmps.getD 5 undef)).toNat) rfl ?_ ?_
  · go_wp2_with fail
    go_step3
    go_wp2_with fail
    rw [pow_nat p]
    have hlt := Sw.two_lt hp
    have hpt : Sw.part G (2 ^ p) = Sw.pt G p := rfl
    clear hpp hpp1
    generalize 2 ^ p = s at *
    have HP := Lib.hid hpt
    clear hpt
    have hs40 := lt40 hn hlt
    refine (besideUnion G hG ad c s hs40 _ (hr.at_ (below1 _))).mono ?_
    rintro e w1 ⟨rfl, hb⟩
    obtain ⟨hb, hc, hz⟩ := box_after hb
    have hor := i64_or s (Sw.bes G s) (lt63 hn hlt) (lt63 hn (Sw.bes_lt hG s))
    have hge := Sw.step_ge G s
    have hsl := Sw.step_lt hG hlt
    have hps := Sw.part_step hG hlt
    by_cases hd : s ||| Sw.bes G s = s
    · have hpd := Sw.part_done (G := G) (s := s) hd
      have HD : Hid (Sw.pt G p = s) := by rw [← HP.out]; exact hpd
      rw [hd] at hor
      clear hd hge hsl hps hpd
      go_wp2_with fail
      simp only [Exit.jump]
      go_ret
      exact ⟨ret_i (by rw [HD.out]), hb⟩
    · have hne : (((s ||| Sw.bes G s : Nat) : Int) != (s : Int)) = true := by
        rw [bne_iff_ne]; intro e; exact hd (by exact_mod_cast e)
      have HS := Lib.hid hps
      clear hps hd hge
      go_wp2_with fail
      go_step3
      exact ⟨rfl, _, _, _, _, _, _, _, _, _, _, _, _, _, rfl, hsl, HS.out.trans HP.out, hb, hc, hz⟩
  · rintro a' w' ⟨s, u6, u7, u8, u9, u10, u11, u12, u13, u14, u15, u16, u17, rfl, hlt, hpt, hb, hc, hz⟩
    have HP := Lib.hid hpt
    clear hpt hpp hpp1
    have hs40 := lt40 hn hlt
    go_wp2_with fail
    refine (besideUnion G hG ad c s hs40 _ (hr.at_ hb)).mono ?_
    rintro e w1 ⟨rfl, hb1⟩
    obtain ⟨hb, hc, hz⟩ := box_next hb hc hz hb1
    have hor := i64_or s (Sw.bes G s) (lt63 hn hlt) (lt63 hn (Sw.bes_lt hG s))
    have hge := Sw.step_ge G s
    have hsl := Sw.step_lt hG hlt
    have hps := Sw.part_step hG hlt
    have h512 := Sw.pow_le9 hn
    by_cases hd : s ||| Sw.bes G s = s
    · have hpd := Sw.part_done (G := G) (s := s) hd
      have HD : Hid (Sw.pt G p = s) := by rw [← HP.out]; exact hpd
      rw [hd] at hor
      clear hd hge hsl hps hpd
      go_wp2_with fail
      simp only [Exit.jump]
      go_ret
      exact ⟨ret_i (by rw [HD.out]), hb⟩
    · have hne : (((s ||| Sw.bes G s : Nat) : Int) != (s : Int)) = true := by
        rw [bne_iff_ne]; intro e; exact hd (by exact_mod_cast e)
      have HS := Lib.hid hps
      have hgt : s < s ||| Sw.bes G s := Nat.lt_of_le_of_ne hge fun e => hd e.symm
      have hm : (1024 - intOf (.int .i64 ((s ||| Sw.bes G s : Nat) : Int))).toNat < (1024 - intOf (.int .i64 (s : Int))).toNat := by
        unfold Sw.step at hsl
        simp only [intOf]; omega
      have HM := Lib.hid hm
      clear hps hd hge hm hgt
      go_wp2_with fail
      go_step3
      exact ⟨rfl, ⟨_, _, _, _, _, _, _, _, _, _, _, _, _, rfl, hsl, HS.out.trans HP.out, hb, hc, hz⟩, HM.out⟩
end Go.Proofs.Ytakgcdiofpijmaa

