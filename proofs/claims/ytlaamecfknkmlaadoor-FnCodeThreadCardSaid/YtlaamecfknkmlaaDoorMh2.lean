/- Merged texts: contracts and plain lemmas (Sets). -/
import Derived.Test.YtlaamecfknkmlaaDoorMh1
/- Plain law: sets of states as numbers, rows of sets, and what the program's loops over them gather. No program in sight. -/
namespace Go.Kt
set_option linter.unusedVariables false
open Go.RowKit

/-! ### sets as numbers -/
/-- The i-th set of a row. -/
def natAt (l : List Int) (i : Nat) : Nat := (nth l i).toNat
/-- All are sets (of at most 31 states). -/
def Sets (l : List Int) : Prop := ∀ i, i < l.length → 0 ≤ nth l i ∧ nth l i < 4294967296
theorem Sets.eq {l : List Int} (h : Sets l) (i : Nat) (hi : i < l.length) : nth l i = ((natAt l i : Nat) : Int) := by
  have := h i hi
  unfold natAt
  omega
theorem Sets.lt {l : List Int} (h : Sets l) (i : Nat) (hi : i < l.length) : natAt l i < 4294967296 := by
  have := h i hi
  unfold natAt
  omega
theorem and_or_add (a b : Nat) : a + b = (a ||| b) + (a &&& b) := by
  induction a using Nat.strongRecOn generalizing b with
  | ind a ih =>
    by_cases h0 : a = 0
    · subst h0; simp
    · have h1 := ih (a / 2) (by omega) (b / 2)
      have ho := Nat.div_add_mod (a ||| b) 2
      have ha := Nat.div_add_mod (a &&& b) 2
      rw [Nat.or_div_two] at ho
      rw [Nat.and_div_two] at ha
      have e1 := Nat.or_mod_two_eq_one (a := a) (b := b)
      have e2 := Nat.and_mod_two_eq_one (a := a) (b := b)
      omega
/-- One or the other; both (behind names that the walk does not open). -/
def orN (a b : Nat) : Nat := a ||| b
def andN (a b : Nat) : Nat := a &&& b
theorem i64_orN (a b : Nat) (ha : a < 4294967296) (hb : b < 4294967296) : bits .or .i64 (a : Int) (b : Int) = ((orN a b : Nat) : Int) := i64_or a b (by omega) (by omega)
theorem i64_andN (a b : Nat) (ha : a < 4294967296) (hb : b < 4294967296) : bits .and .i64 (a : Int) (b : Int) = ((andN a b : Nat) : Int) := i64_and a b (by omega) (by omega)
theorem orN_lt {a b m : Nat} (ha : a < 2 ^ m) (hb : b < 2 ^ m) : orN a b < 2 ^ m := Nat.or_lt_two_pow ha hb
theorem orN_add (a b : Nat) : (a : Int) + (b : Int) - ((andN a b : Nat) : Int) = ((orN a b : Nat) : Int) := by
  have h : a + b = (a ||| b) + (a &&& b) := and_or_add a b
  unfold andN orN
  omega
theorem andN_le (a b : Nat) : andN a b ≤ a := Nat.and_le_left
/-- Row by row one or the other. -/
def plusTo (a b : List Int) (k : Nat) : List Int := (List.range k).map fun i => ((orN (natAt a i) (natAt b i) : Nat) : Int)
theorem plusTo_succ (a b : List Int) (k : Nat) : plusTo a b (k + 1) = plusTo a b k ++ [((orN (natAt a k) (natAt b k) : Nat) : Int)] := by
  simp [plusTo, List.range_succ]
theorem plusTo_length (a b : List Int) (k : Nat) : (plusTo a b k).length = k := by simp [plusTo]

theorem plusTo_get (a b : List Int) (k i : Nat) (h : i < k) : nth (plusTo a b k) i = ((orN (natAt a i) (natAt b i) : Nat) : Int) := by
  rw [nth_getElem _ _ (by rw [plusTo_length]; exact h)]; simp [plusTo]

/-- To where rows lead from a set, as far as the first k rows tell. -/
def imgTo (b : List Int) (set : Nat) : Nat → Nat
  | 0 => 0
  | k + 1 => if set.testBit k then orN (imgTo b set k) (natAt b k) else imgTo b set k
def img (b : List Int) (set : Nat) : Nat := imgTo b set b.length
theorem imgTo_zero (b : List Int) (set : Nat) : imgTo b set 0 = 0 := rfl
theorem imgTo_succ (b : List Int) (set k : Nat) : imgTo b set (k + 1) = if set.testBit k then orN (imgTo b set k) (natAt b k) else imgTo b set k := rfl
theorem imgTo_lt {b : List Int} {m : Nat} (h : ∀ i, i < b.length → natAt b i < 2 ^ m) (set : Nat) : ∀ k, k ≤ b.length → imgTo b set k < 2 ^ m
  | 0, _ => Nat.two_pow_pos m
  | k + 1, hk => by
    rw [imgTo_succ]
    split
    · exact orN_lt (imgTo_lt h set k (by omega)) (h k (by omega))
    · exact imgTo_lt h set k (by omega)
theorem img_lt {b : List Int} {m : Nat} (h : ∀ i, i < b.length → natAt b i < 2 ^ m) (set : Nat) : img b set < 2 ^ m := imgTo_lt h set _ (Nat.le_refl _)
theorem Sets.pow {l : List Int} (h : Sets l) : ∀ i, i < l.length → natAt l i < 2 ^ 32 := fun i hi => h.lt i hi

/-- Rows one behind the other. -/
def thenTo (a b : List Int) (k : Nat) : List Int := (List.range k).map fun i => ((img b (natAt a i) : Nat) : Int)
theorem thenTo_succ (a b : List Int) (k : Nat) : thenTo a b (k + 1) = thenTo a b k ++ [((img b (natAt a k) : Nat) : Int)] := by
  simp [thenTo, List.range_succ]
theorem thenTo_length (a b : List Int) (k : Nat) : (thenTo a b k).length = k := by simp [thenTo]
theorem thenTo_get (a b : List Int) (k i : Nat) (h : i < k) : nth (thenTo a b k) i = ((img b (natAt a i) : Nat) : Int) := by
  rw [nth_getElem _ _ (by rw [thenTo_length]; exact h)]; simp [thenTo]

/-- 2^k behind a name. -/
def pow2 (k : Nat) : Nat := 2 ^ k
theorem pow2_cast (k : Nat) : (2 : Int) ^ k = ((pow2 k : Nat) : Int) := by simp [pow2]
theorem pow2_le (k m : Nat) (h : k ≤ m) : pow2 k ≤ pow2 m := Nat.pow_le_pow_right (by decide) h
theorem pow2_lt (k m : Nat) (h : k < m) : pow2 k < pow2 m := Nat.pow_lt_pow_right (by decide) h
theorem pow2_pos (k : Nat) : 1 ≤ pow2 k := Nat.one_le_two_pow
/-- A set and to where it leads, once, and i times. -/
def stepN (a : List Int) (s : Nat) : Nat := orN s (img a s)
def iterN (a : List Int) (s : Nat) : Nat → Nat
  | 0 => s
  | i + 1 => stepN a (iterN a s i)
def clo (a : List Int) (s : Nat) : Nat := iterN a s 32
theorem iterN_zero (a : List Int) (s : Nat) : iterN a s 0 = s := rfl
theorem iterN_succ (a : List Int) (s i : Nat) : iterN a s (i + 1) = stepN a (iterN a s i) := rfl
theorem stepN_ge (a : List Int) (s : Nat) : s ≤ stepN a s := Nat.left_le_or
theorem stepN_lt {a : List Int} {m : Nat} (h : ∀ i, i < a.length → natAt a i < 2 ^ m) {s : Nat} (hs : s < 2 ^ m) : stepN a s < 2 ^ m := orN_lt hs (img_lt h s)
theorem iterN_lt {a : List Int} {m : Nat} (h : ∀ i, i < a.length → natAt a i < 2 ^ m) {s : Nat} (hs : s < 2 ^ m) : ∀ i, iterN a s i < 2 ^ m
  | 0 => hs
  | i + 1 => stepN_lt h (iterN_lt h hs i)
theorem iterN_fix (a : List Int) (s i : Nat) (hf : stepN a (iterN a s i) = iterN a s i) : ∀ j, iterN a s (i + j) = iterN a s i
  | 0 => rfl
  | j + 1 => by rw [← Nat.add_assoc, iterN_succ, iterN_fix a s i hf j, hf]
theorem clo_of_fix (a : List Int) (s i : Nat) (hi : i ≤ 32) (hf : stepN a (iterN a s i) = iterN a s i) : clo a s = iterN a s i := by
  have := iterN_fix a s i hf (32 - i)
  rwa [show i + (32 - i) = 32 by omega] at this
theorem clo_lt {a : List Int} {m : Nat} (h : ∀ i, i < a.length → natAt a i < 2 ^ m) {s : Nat} (hs : s < 2 ^ m) : clo a s < 2 ^ m := iterN_lt h hs 32
/-- Again and again. -/
def starTo (a : List Int) (k : Nat) : List Int := (List.range k).map fun i => ((clo a (pow2 i) : Nat) : Int)
theorem starTo_succ (a : List Int) (k : Nat) : starTo a (k + 1) = starTo a k ++ [((clo a (pow2 k) : Nat) : Int)] := by
  simp [starTo, List.range_succ]
theorem starTo_length (a : List Int) (k : Nat) : (starTo a k).length = k := by simp [starTo]
theorem starTo_get (a : List Int) (k i : Nat) (h : i < k) : nth (starTo a k) i = ((clo a (pow2 i) : Nat) : Int) := by
  rw [nth_getElem _ _ (by rw [starTo_length]; exact h)]; simp [starTo]

/-- The states (of the first j) from which rows lead to the state t. -/
def backSet (a : List Int) (t : Nat) : Nat → Nat
  | 0 => 0
  | j + 1 => backSet a t j + if (natAt a j).testBit t then pow2 j else 0
theorem backSet_zero (a : List Int) (t : Nat) : backSet a t 0 = 0 := rfl
theorem backSet_succ (a : List Int) (t j : Nat) : backSet a t (j + 1) = backSet a t j + if (natAt a j).testBit t then pow2 j else 0 := rfl
theorem backSet_lt (a : List Int) (t : Nat) : ∀ j, backSet a t j < 2 ^ j
  | 0 => by simp [backSet]
  | j + 1 => by
    have := backSet_lt a t j
    rw [backSet_succ, Nat.pow_succ]
    unfold pow2
    split <;> omega
theorem backSet_or (a : List Int) (t j : Nat) (h : (natAt a j).testBit t = true) : orN (backSet a t j) (pow2 j) = backSet a t (j + 1) := by
  have := Nat.two_pow_add_eq_or_of_lt (backSet_lt a t j) 1
  rw [Nat.mul_one] at this
  rw [backSet_succ, if_pos h, orN, pow2, Nat.or_comm, ← this, Nat.add_comm]
/-- Rows back. -/
def backTo (a : List Int) (k : Nat) : List Int := (List.range k).map fun t => ((backSet a t a.length : Nat) : Int)
theorem backTo_succ (a : List Int) (k : Nat) : backTo a (k + 1) = backTo a k ++ [((backSet a k a.length : Nat) : Int)] := by
  simp [backTo, List.range_succ]
theorem backTo_length (a : List Int) (k : Nat) : (backTo a k).length = k := by simp [backTo]
theorem backTo_get (a : List Int) (k i : Nat) (h : i < k) : nth (backTo a k) i = ((backSet a i a.length : Nat) : Int) := by
  rw [nth_getElem _ _ (by rw [backTo_length]; exact h)]; simp [backTo]

/-- Behind the first k rows, and of the next one the first t states. -/
def backMix (a : List Int) (n k t : Nat) : List Int := (List.range n).map fun i => ((if i < t then backSet a i (k + 1) else backSet a i k : Nat) : Int)
theorem backMix_length (a : List Int) (n k t : Nat) : (backMix a n k t).length = n := by simp [backMix]
theorem backMix_get (a : List Int) (n k t i : Nat) (h : i < n) : nth (backMix a n k t) i = ((if i < t then backSet a i (k + 1) else backSet a i k : Nat) : Int) := by
  rw [nth_getElem _ _ (by rw [backMix_length]; exact h)]; simp [backMix]
theorem backMix_zero (a : List Int) (n : Nat) : backMix a n 0 0 = List.replicate n 0 := by
  apply List.ext_getElem
  · simp [backMix]
  · intro i h1 h2
    simp [backMix, backSet]
theorem backMix_next (a : List Int) (n k : Nat) : backMix a n k n = backMix a n (k + 1) 0 := by
  simp only [backMix]
  apply List.map_congr_left
  intro i hi
  have : i < n := by simpa using hi
  simp [this]
theorem backMix_end (a : List Int) (n : Nat) : backMix a n a.length 0 = backTo a n := by
  simp only [backMix, backTo]
  apply List.map_congr_left
  intro i _
  simp
theorem backMix_skip (a : List Int) (n k t : Nat) (h : (natAt a k).testBit t = false) : backMix a n k (t + 1) = backMix a n k t := by
  simp only [backMix]
  apply List.map_congr_left
  intro i _
  by_cases h1 : i < t
  · rw [if_pos h1, if_pos (by omega)]
  · by_cases h2 : i = t
    · subst h2
      rw [if_pos (by omega), if_neg (by omega), backSet_succ, h]; simp
    · rw [if_neg h1, if_neg (by omega)]
theorem backMix_set (a : List Int) (n k t : Nat) (h : (natAt a k).testBit t = true) : (backMix a n k t).set t ((orN (backSet a t k) (pow2 k) : Nat) : Int) = backMix a n k (t + 1) := by
  rw [backSet_or a t k h]
  apply List.ext_getElem
  · simp [backMix]
  · intro i h1 h2
    by_cases hi : i = t
    · subst hi; simp [backMix]
    · rw [List.getElem_set_ne (by omega)]
      simp only [backMix, List.getElem_map, List.getElem_range]
      by_cases h3 : i < t
      · rw [if_pos h3, if_pos (by omega)]
      · rw [if_neg h3, if_neg (by omega)]

end Go.Kt
