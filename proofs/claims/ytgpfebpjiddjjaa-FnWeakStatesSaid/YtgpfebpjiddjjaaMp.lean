/- Plain law: the rows of an expression in a model; the states from which it leads only to a set. No program in sight. -/
import Derived.Test.YtgpfebpjiddjjaaSets2
import Derived.Test.YtgpfebpjiddjjaaKg
namespace Go.Kt
set_option linter.unusedVariables false

/-- The row of a state at a test. -/
def testRow (p q : Int) (t st k : Nat) : Nat := if (tsTo p q t st).testBit k then pow2 k else 0
def testL (p q : Int) (t st k : Nat) : List Int := (List.range k).map fun i => ((testRow p q t st i : Nat) : Int)
theorem testL_length (p q : Int) (t st k : Nat) : (testL p q t st k).length = k := by simp [testL]
theorem testL_get (p q : Int) (t st k i : Nat) (h : i < k) : nth (testL p q t st k) i = ((testRow p q t st i : Nat) : Int) := by
  rw [nth_getElem _ _ (by rw [testL_length]; exact h)]; simp [testL]
theorem testL_succ (p q : Int) (t st k : Nat) : testL p q t st (k + 1) = testL p q t st k ++ [((testRow p q t st k : Nat) : Int)] := by simp [testL, List.range_succ]
theorem testRow_lt (p q : Int) {t st k : Nat} (hk : k < st) : testRow p q t st k < 2 ^ st := by
  unfold testRow
  split
  · exact pow2_lt_two hk
  · exact Nat.two_pow_pos st
theorem Rel.test (p q : Int) {t st : Nat} (h : st ≤ 31) : Rel st (testL p q t st st) := by
  refine ⟨testL_length _ _ _ _ _, h, ?_, ?_⟩
  · exact sets_of_cast (fun i => testRow p q t st i) (fun i hi => testL_get p q t st st i (by rw [testL_length] at hi; exact hi)) fun i hi => two_pow_31 h (testRow_lt p q (by rw [testL_length] at hi; exact hi))
  · intro i hi
    rw [natAt_cast (testL_get p q t st st i hi)]
    exact testRow_lt p q hi
/-- The rows of an expression. -/
def Kt.rows (p q : Int) (st : Nat) (ll : List (List Int)) : Kt → List Int
  | .leaf s => if s ≤ 15 then testL p q s.toNat st st else rowI ll (s.toNat - 16)
  | .star a => starTo (Kt.rows p q st ll a) (Kt.rows p q st ll a).length
  | .two s a b => if s = 20 then plusTo (Kt.rows p q st ll a) (Kt.rows p q st ll b) (Kt.rows p q st ll a).length else thenTo (Kt.rows p q st ll a) (Kt.rows p q st ll b) (Kt.rows p q st ll a).length
theorem Kt.rows_rel (p q : Int) (st : Nat) (ll : List (List Int)) (hst : st ≤ 31) (hll : ∀ i, i < 3 → Rel st (rowI ll i)) : ∀ t : Kt, t.Good → Rel st (t.rows p q st ll)
  | .leaf s, h => by
    have h : 0 ≤ s ∧ s ≤ 18 := h
    simp only [Kt.rows]
    split
    · exact Rel.test p q hst
    · exact hll _ (by omega)
  | .star a, h => (a.rows_rel p q st ll hst hll h).starTo
  | .two s a b, h => by
    simp only [Kt.rows]
    split
    · exact (a.rows_rel p q st ll hst hll h.2.1).plusTo (b.rows_rel p q st ll hst hll h.2.2)
    · exact (a.rows_rel p q st ll hst hll h.2.1).thenTo (b.rows_rel p q st ll hst hll h.2.2)

/-- The states, of the first k, whose row lies in a set. -/
def inTo (r : List Int) (x : Nat) : Nat → Nat
  | 0 => 0
  | k + 1 => inTo r x k + if andN (natAt r k) x = natAt r k then pow2 k else 0
theorem inTo_lt (r : List Int) (x : Nat) : ∀ k, inTo r x k < 2 ^ k
  | 0 => by simp [inTo]
  | k + 1 => by
    have := inTo_lt r x k
    simp only [inTo, Nat.pow_succ]
    unfold pow2
    split <;> omega
theorem inTo_or (r : List Int) (x k : Nat) (h : andN (natAt r k) x = natAt r k) : orN (inTo r x k) (pow2 k) = inTo r x (k + 1) := by
  have := Nat.two_pow_add_eq_or_of_lt (inTo_lt r x k) 1
  rw [Nat.mul_one] at this
  simp only [inTo]
  rw [if_pos h, orN, pow2, Nat.or_comm, ← this, Nat.add_comm]
/-- Cut down by f until nothing is lost. -/
def shr (f : Nat → Nat) : Nat → Nat → Nat
  | 0, s => s
  | n + 1, s => if andN s (f s) = s then s else shr f n (andN s (f s))
theorem shr_fix {f : Nat → Nat} {s : Nat} (h : andN s (f s) = s) : ∀ n, shr f n s = s
  | 0 => rfl
  | n + 1 => if_pos h
theorem andN_lt {s t : Nat} (h : andN s t ≠ s) : andN s t < s := Nat.lt_of_le_of_ne (andN_le s t) h
theorem shr_more (f : Nat → Nat) : ∀ (n s : Nat), s ≤ n → ∀ d, shr f (n + d) s = shr f n s
  | 0, s, hs, d => by
    obtain rfl : s = 0 := by omega
    exact shr_fix (by simp [andN]) _
  | n + 1, s, hs, d => by
    by_cases h : andN s (f s) = s
    · rw [shr_fix h, shr_fix h]
    · have hlt := andN_lt h
      rw [show n + 1 + d = (n + d) + 1 by omega]
      simp only [shr, if_neg h]
      exact shr_more f n _ (by omega) d
theorem shr_step {f : Nat → Nat} {n s : Nat} (hs : s ≤ n) (h : andN s (f s) ≠ s) : shr f n (andN s (f s)) = shr f n s := by
  have hlt := andN_lt h
  obtain ⟨m, rfl⟩ : ∃ m, n = m + 1 := ⟨n - 1, by omega⟩
  have : shr f (m + 1) s = shr f m (andN s (f s)) := if_neg h
  rw [this]
  exact shr_more f m _ (by omega) 1
theorem shr_le (f : Nat → Nat) : ∀ n s, shr f n s ≤ s
  | 0, s => Nat.le_refl _
  | n + 1, s => by
    simp only [shr]
    split
    · exact Nat.le_refl _
    · exact Nat.le_trans (shr_le f n _) (andN_le _ _)
/-- The states from which an expression leads only to a set. -/
def Kt.weak (p q : Int) (st : Nat) (ll : List (List Int)) : Kt → Nat → Nat
  | .leaf s, x => if s ≤ 15 then orN (2 ^ st - 1 - tsTo p q s.toNat st) x else inTo (rowI ll (s.toNat - 16)) x st
  | .star a, x => shr (Kt.weak p q st ll a) x x
  | .two s a b, x => if s = 20 then andN (Kt.weak p q st ll a x) (Kt.weak p q st ll b x) else Kt.weak p q st ll a (Kt.weak p q st ll b x)
theorem Kt.weak_lt (p q : Int) (st : Nat) (ll : List (List Int)) : ∀ (t : Kt) (x : Nat), x < 2 ^ st → t.weak p q st ll x < 2 ^ st
  | .leaf s, x, hx => by
    have := Nat.two_pow_pos st
    simp only [Kt.weak]
    split
    · exact orN_lt (by omega) hx
    · exact inTo_lt _ _ _
  | .star a, x, hx => Nat.lt_of_le_of_lt (shr_le _ _ _) hx
  | .two s a b, x, hx => by
    simp only [Kt.weak]
    split
    · exact Nat.lt_of_le_of_lt (andN_le _ _) (a.weak_lt p q st ll x hx)
    · exact a.weak_lt p q st ll _ (b.weak_lt p q st ll x hx)
end Go.Kt
