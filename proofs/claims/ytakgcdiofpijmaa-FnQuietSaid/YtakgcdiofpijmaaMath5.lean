/- Plain law of PressRun. No program in sight. No conditions. -/
import Derived.Test.YtakgcdiofpijmaaMath
namespace Go.Proofs.Ytakgcdiofpijmaa.Sw
/-- point p pressed, if there is one -/
def runStep (G : List Nat) (p : Int) : Option Nat → Option Nat
  | none => none
  | some T => if 0 ≤ p ∧ p < G.length then some (T ^^^ row G p.toNat) else none
def runK (G : List Nat) (S : Nat) (P : List Int) (k : Nat) : Option Nat := lp (fun j x => runStep G (gat P j) x) (some S) k
theorem runK_succ (G : List Nat) (S : Nat) (P : List Int) (k : Nat) : runK G S P (k + 1) = runStep G (gat P k) (runK G S P k) := rfl
theorem runStep_yes {G : List Nat} {p : Int} {q T : Nat} (h : p = (q : Int)) (hq : q < G.length) : runStep G p (some T) = some (T ^^^ row G q) := by
  subst h; unfold runStep; simp only [Int.toNat_natCast]; rw [if_pos ⟨by omega, by omega⟩]
theorem runStep_no {G : List Nat} {p : Int} {T : Nat} (h : p < 0 ∨ (G.length : Int) ≤ p) : runStep G p (some T) = none := by
  unfold runStep; simp only; rw [if_neg (by omega)]
theorem runK_none {G : List Nat} {S : Nat} {P : List Int} : ∀ {k m : Nat}, runK G S P k = none → k ≤ m → runK G S P m = none
  | k, 0, h, hm => by have : k = 0 := by omega
                      subst this; exact h
  | k, m + 1, h, hm => by
    rcases Nat.lt_or_ge m k with q | q
    · have : k = m + 1 := by omega
      subst this; exact h
    · rw [runK_succ, runK_none h q]; rfl
def runI : Option Nat → Int
  | none => -1
  | some T => (T : Int)
def run (G : List Nat) (S : Nat) (P : List Int) : Int := runI (runK G S P P.length)
theorem run_def (G : List Nat) (S : Nat) (P : List Int) : run G S P = runI (runK G S P P.length) := rfl
theorem runK_out {G : List Nat} {S T k : Nat} {P : List Int} (h : runK G S P k = some T) (hk : k < P.length) (hp : gat P k < 0 ∨ (G.length : Int) ≤ gat P k) : run G S P = -1 := by
  have h1 : runK G S P (k + 1) = none := by rw [runK_succ, h, runStep_no hp]
  rw [run_def, runK_none h1 (by omega)]; rfl
/-- what 'PressRun' answers -/
noncomputable def vRun (l : List Int) (s : Int) (P : List Int) : Int := if svB l s = true ∧ P.length ≤ 40 then run (toN l) s.toNat P else -1
theorem vRun_no1 {l : List Int} {s : Int} {P : List Int} (h : svB l s = false) : vRun l s P = -1 := by unfold vRun; rw [h]; simp
theorem vRun_no2 {l : List Int} {s : Int} {P : List Int} (h : 40 < P.length) : vRun l s P = -1 := by unfold vRun; rw [if_neg (by omega)]
theorem vRun_yes {G : List Nat} {S : Nat} {P : List Int} (hG : GVN G) (hS : S < 2 ^ G.length) (h : P.length ≤ 40) : vRun (toI G) (S : Int) P = run G S P := by
  unfold vRun; rw [if_pos ⟨svB_yes hG hS, h⟩, toN_toI]; rfl
end Go.Proofs.Ytakgcdiofpijmaa.Sw

