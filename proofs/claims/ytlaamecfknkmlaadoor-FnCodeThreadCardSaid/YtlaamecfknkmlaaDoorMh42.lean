/- Merged texts: contracts and plain lemmas (Short). -/
import Derived.Test.YtlaamecfknkmlaaDoorMh41
/- Plain law: codes made shorter. No program in sight. -/
namespace Go.Kt
set_option linter.unusedVariables false
open Go.RowKit

/-- How many of the first k are marked. -/
def plc (b : List Bool) : Nat → Nat
  | 0 => 0
  | k + 1 => plc b k + if nthB b k then 1 else 0
theorem plc_le (b : List Bool) : ∀ k, plc b k ≤ k
  | 0 => Nat.le_refl _
  | k + 1 => by
    have := plc_le b k
    simp only [plc]
    split <;> omega
theorem plc_on {b : List Bool} {k : Nat} (h : nthB b k = true) : plc b (k + 1) = plc b k + 1 := by simp [plc, h]
theorem plc_off {b : List Bool} {k : Nat} (h : nthB b k = false) : plc b (k + 1) = plc b k := by simp [plc, h]
def plTo (b : List Bool) (k : Nat) : List Int := (List.range k).map fun i => ((plc b i : Nat) : Int)
theorem plTo_succ (b : List Bool) (k : Nat) : plTo b (k + 1) = plTo b k ++ [((plc b k : Nat) : Int)] := by simp [plTo, List.range_succ]
theorem plTo_length (b : List Bool) (k : Nat) : (plTo b k).length = k := by simp [plTo]
theorem plTo_get (b : List Bool) (k i : Nat) (h : i < k) : nth (plTo b k) i = ((plc b i : Nat) : Int) := by
  rw [nth_getElem _ _ (by rw [plTo_length]; exact h)]; simp [plTo]
/-- Where an instruction goes in the shorter code. -/
def shT (M : List Int) (b : List Bool) (k : Nat) : Int := if kd M k = 1 ∨ kd M k = 2 then ((plc b (tg M k).toNat : Nat) : Int) else tg M k
def outTo (M : List Int) (b : List Bool) : Nat → List Int
  | 0 => []
  | k + 1 => if nthB b k then outTo M b k ++ [kd M k, ag M k, shT M b k] else outTo M b k
theorem outTo_on {M : List Int} {b : List Bool} {k : Nat} (h : nthB b k = true) : outTo M b (k + 1) = outTo M b k ++ [kd M k, ag M k, shT M b k] := by simp [outTo, h]
theorem outTo_off {M : List Int} {b : List Bool} {k : Nat} (h : nthB b k = false) : outTo M b (k + 1) = outTo M b k := by simp [outTo, h]
theorem outTo_len (M : List Int) (b : List Bool) : ∀ k, (outTo M b k).length = plc b k * 3
  | 0 => rfl
  | k + 1 => by
    have := outTo_len M b k
    cases hb : nthB b k
    · rw [outTo_off hb, plc_off hb]; exact this
    · rw [outTo_on hb, plc_on hb, List.length_append, this]; simp; omega
/-- A code with jumps saved is valid. -/
theorem thr_valid {n : Nat} {L : List Int} (h : cvB n L = true) : cvB n (thrTo n L n) = true := by
  obtain ⟨h1, h40, hlast, hall⟩ := cvB_bounds h
  have hk : ∀ i, i < n → kd (thrTo n L n) i = kd L i ∧ ag (thrTo n L n) i = ag L i ∧ tg (thrTo n L n) i = thr n L i := fun i hi => thr_three n L i hi
  simp only [cvB, decide_eq_true_eq]
  refine ⟨h1, h40, by rw [(hk (n - 1) (by omega)).1]; exact hlast, fun i hi => ?_⟩
  obtain ⟨e0, e1, e2⟩ := hk i hi
  rw [e0, e1, e2]
  by_cases hkd : kd L i = 1 ∨ kd L i = 2
  · have hg := thr_goes hall hi hkd
    have hv := hall i hi
    unfold insB at hv ⊢
    rcases hkd with hkd | hkd
    · rw [hkd] at hv ⊢
      simp at hv ⊢
      exact ⟨hv.1, hg⟩
    · rw [hkd] at hv ⊢
      simp at hv ⊢
      exact ⟨hv.1, hg⟩
  · rw [thr_same n L i hkd]
    exact hall i hi
noncomputable def shF (n : Nat) (L : List Int) : List Int := if cvB n L then outTo (thrTo n L n) (reachL n (thrTo n L n)) n else []
noncomputable def shN (n : Nat) (L : List Int) : Nat := if cvB n L then plc (reachL n (thrTo n L n)) n else 0
theorem shN_le (n : Nat) (L : List Int) : shN n L ≤ 40 := by
  unfold shN
  cases h : cvB n L
  · simp
  · simp only [if_true]
    exact Nat.le_trans (plc_le _ _) (cvB_bounds h).2.1
end Go.Kt
