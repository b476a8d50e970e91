/- Contracts: validity of models. -/
import Derived.Test.YtcjnihhinnedkaaDoorC
namespace Go.Proofs.YtcjnihhinnedkaaDoor
set_option linter.unusedVariables false
open Go.RowKit Go.Kt

/-- A model is valid. -/
def mvB (st p q : Int) (ll : List (List Int)) : Bool := decide (1 ≤ st ∧ st ≤ 5 ∧ (0 ≤ p ∧ p < 2 ^ st.toNat) ∧ (0 ≤ q ∧ q < 2 ^ st.toNat) ∧ ll.length = 3 ∧ ∀ r ∈ ll, rvB st r = true)
/-- A model as a value. -/
abbrev modelV (st p q : Int) (a : Option Addr) (n cap : Nat) : Value := .agg #[.int .i64 st, .int .i64 p, .int .i64 q, .slice a n cap]
/-- What slices.IndexFunc answers over rows. -/
def findR (p : List Int → Bool) (l : List (List Int)) : Int := if l.any p then ((l.findIdx p : Nat) : Int) else -1
theorem findR_none (p : List Int → Bool) (l : List (List Int)) (h : ∀ j, j < l.length → p (rowI l j) = false) : findR p l = -1 := by
  unfold findR
  rw [if_neg]
  rw [List.any_eq_true]
  rintro ⟨x, hx, hp⟩
  obtain ⟨j, hj, rfl⟩ := List.getElem_of_mem hx
  have := h j hj
  rw [rowI_getElem l j hj] at this
  rw [this] at hp; cases hp
theorem findR_at (p : List Int → Bool) (l : List (List Int)) (k : Nat) (hk : k < l.length) (h : ∀ j, j < k → p (rowI l j) = false) (hp : p (rowI l k) = true) : findR p l = k := by
  unfold findR
  rw [rowI_getElem l k hk] at hp
  rw [if_pos (List.any_eq_true.2 ⟨_, List.getElem_mem hk, hp⟩)]
  congr 1
  rw [List.findIdx_eq hk]
  refine ⟨hp, fun j hj => ?_⟩
  have := h j hj
  rwa [rowI_getElem l j (by omega)] at this
theorem findR_nonneg (p : List Int → Bool) (l : List (List Int)) : decide (0 ≤ findR p l) = l.any p := by
  unfold findR
  cases l.any p <;> simp

/-- Rows that are not valid for so many states. -/
def badRows (st : Int) (r : List Int) : Bool := !rvB st r

theorem mv_any (st : Int) (ll : List (List Int)) : (!ll.any (badRows st)) = true ↔ ∀ r ∈ ll, rvB st r = true := by
  simp [badRows]
theorem mvB_of (s : Nat) (p q : Int) (ll : List (List Int)) (h1 : 1 ≤ s) (h2 : s ≤ 5) : mvB s p q ll = (setB s p && (setB s q && (decide (ll.length = 3) && !ll.any (badRows s)))) := by
  rw [Bool.eq_iff_iff]
  simp only [mvB, setB, Bool.and_eq_true, decide_eq_true_eq, mv_any, Int.toNat_natCast]
  constructor
  · rintro ⟨_, _, a, b, c, d⟩; exact ⟨a, b, c, d⟩
  · rintro ⟨a, b, c, d⟩; exact ⟨by omega, by omega, a, b, c, d⟩
theorem mvB_out (st p q : Int) (ll : List (List Int)) (h : ¬ (1 ≤ st ∧ st ≤ 5)) : mvB st p q ll = false := by
  simp [mvB]; omega

end Go.Proofs.YtcjnihhinnedkaaDoor
