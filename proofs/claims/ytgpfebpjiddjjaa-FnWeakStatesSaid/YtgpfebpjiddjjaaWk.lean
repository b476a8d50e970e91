/- Plain law: a state is in the weakest set exactly if all states to which the expression leads from it are in the set. No program in sight. -/
import Derived.Test.YtgpfebpjiddjjaaMp
namespace Go.Kt
set_option linter.unusedVariables false
open Go.RowKit

theorem testBit_inTo (r : List Int) (x s : Nat) : ∀ k, (inTo r x k).testBit s = true ↔ s < k ∧ Sub (natAt r s) x
  | 0 => by simp [inTo]
  | k + 1 => by
    by_cases hb : andN (natAt r k) x = natAt r k
    · rw [← inTo_or r x k hb, testBit_orN, Bool.or_eq_true, testBit_inTo r x s k, testBit_pow2, decide_eq_true_eq]
      constructor
      · rintro (⟨h1, h2⟩ | rfl)
        · exact ⟨by omega, h2⟩
        · exact ⟨by omega, sub_of_andN hb⟩
      · rintro ⟨h1, h2⟩
        by_cases hsj : s = k
        · exact .inr hsj.symm
        · exact .inl ⟨by omega, h2⟩
    · simp only [inTo, if_neg hb, Nat.add_zero]
      rw [testBit_inTo r x s k]
      constructor
      · rintro ⟨h1, h2⟩; exact ⟨by omega, h2⟩
      · rintro ⟨h1, h2⟩
        by_cases hsj : s = k
        · subst hsj; exact absurd (andN_of_sub h2) hb
        · exact ⟨by omega, h2⟩
theorem sub_le {a b : Nat} (h : Sub a b) : a ≤ b := by
  rw [← andN_of_sub h]; exact Nat.and_le_right
theorem sub_andN {c a b : Nat} (h : Sub c a) (k : Sub c b) : Sub c (andN a b) := fun i hi => by
  rw [testBit_andN, h i hi, k i hi]; rfl
theorem andN_sub (a b : Nat) : Sub (andN a b) a := fun i hi => by
  rw [testBit_andN, Bool.and_eq_true] at hi; exact hi.1
theorem shr_sub (f : Nat → Nat) : ∀ n s, Sub (shr f n s) s
  | 0, s => Sub.refl _
  | n + 1, s => by
    simp only [shr]
    split
    · exact Sub.refl _
    · exact (shr_sub f n _).trans (andN_sub _ _)
theorem shr_end (f : Nat → Nat) : ∀ n s, s ≤ n → andN (shr f n s) (f (shr f n s)) = shr f n s
  | 0, s, h => by
    obtain rfl : s = 0 := by omega
    simp [shr, andN]
  | n + 1, s, h => by
    by_cases hc : andN s (f s) = s
    · rw [shr_fix hc]; exact hc
    · have hlt := andN_lt hc
      simp only [shr, if_neg hc]
      exact shr_end f n _ (by omega)
theorem sub_shr {f : Nat → Nat} {c m : Nat} (mono : ∀ b, b < m → Sub c b → Sub c (f b)) : ∀ n s, s < m → Sub c s → Sub c (shr f n s)
  | 0, s, _, h => h
  | n + 1, s, hm, h => by
    simp only [shr]
    split
    · exact h
    · exact sub_shr mono n _ (Nat.lt_of_le_of_lt (andN_le _ _) hm) (sub_andN h (mono s hm h))
theorem img_sub {b : List Int} {s x : Nat} : Sub (img b s) x ↔ ∀ i, i < b.length → s.testBit i = true → Sub (natAt b i) x :=
  ⟨fun h i hi hs t ht => h t ((testBit_img b s t).2 ⟨i, hi, hs, ht⟩), fun h t ht => by
    obtain ⟨i, h1, h2, h3⟩ := (testBit_img b s t).1 ht
    exact h i h1 h2 t h3⟩
theorem weak_bits (p q : Int) (st : Nat) (ll : List (List Int)) (hst : st ≤ 5) (hll : ∀ i, i < 3 → Rel st (rowI ll i)) : ∀ t : Kt, t.Good → ∀ x, x < 2 ^ st → ∀ k, k < st →
    ((t.weak p q st ll x).testBit k = true ↔ Sub (natAt (t.rows p q st ll) k) x)
  | .leaf s, hg, x, hx, k, hk => by
    by_cases h15 : s ≤ 15
    · simp only [Kt.weak, Kt.rows, if_pos h15]
      rw [natAt_cast (testL_get p q s.toNat st st k hk), testBit_orN]
      have hb := Nat.testBit_two_pow_sub_succ (tsTo_lt p q s.toNat st) k
      rw [show 2 ^ st - 1 - tsTo p q s.toNat st = 2 ^ st - (tsTo p q s.toNat st + 1) by omega, hb]
      unfold testRow
      cases hc : (tsTo p q s.toNat st).testBit k
      · simp [hk, Sub]
      · simp only [Bool.not_true, Bool.and_false, Bool.false_or, if_true]
        constructor
        · intro h i hi
          rw [testBit_pow2, decide_eq_true_eq] at hi
          rw [← hi]; exact h
        · intro h
          exact h k (by rw [testBit_pow2]; simp)
    · simp only [Kt.weak, Kt.rows, if_neg h15]
      rw [testBit_inTo]
      exact ⟨fun h => h.2, fun h => ⟨hk, h⟩⟩
  | .star a, hg, x, hx, k, hk => by
    have hr := a.rows_rel p q st ll (by omega) hll hg
    have ih := weak_bits p q st ll hst hll a hg
    simp only [Kt.weak, Kt.rows]
    rw [natAt_star _ _ k (by rw [hr.len]; exact hk)]
    have hs := shr_sub (a.weak p q st ll) x x
    have he := shr_end (a.weak p q st ll) x x (Nat.le_refl _)
    have hcl := clo_img hr hst (pow2_lt_two hk)
    have hclt := clo_lt hr.lt' (pow2_lt_two hk)
    have hback : Sub (clo (a.rows p q st ll) (pow2 k)) x → Sub (clo (a.rows p q st ll) (pow2 k)) (shr (a.weak p q st ll) x x) := by
      refine sub_shr (m := 2 ^ st) (fun b hb hc i hi => ?_) x x hx
      have hi5 : i < st := testBit_lt hclt hi
      refine (ih b hb i hi5).2 (Sub.trans ?_ hc)
      exact img_sub.1 hcl i (by rw [hr.len]; exact hi5) hi
    have hfore : (shr (a.weak p q st ll) x x).testBit k = true → Sub (clo (a.rows p q st ll) (pow2 k)) x := by
      intro hb
      refine Sub.trans (clo_least _ (x := shr (a.weak p q st ll) x x) ?_ ?_) hs
      · intro i hi
        rw [testBit_pow2, decide_eq_true_eq] at hi
        rw [← hi]; exact hb
      · rw [img_sub]
        intro i hi hbi
        have hSlt : shr (a.weak p q st ll) x x < 2 ^ st := Nat.lt_of_le_of_lt (shr_le _ _ _) hx
        exact (ih _ hSlt i (by rw [← hr.len]; exact hi)).1 (sub_of_andN he i hbi)
    exact ⟨hfore, fun h => hback h k (sub_clo _ _ k (by rw [testBit_pow2]; simp))⟩
  | .two s a b, hg, x, hx, k, hk => by
    have hra := a.rows_rel p q st ll (by omega) hll hg.2.1
    have hrb := b.rows_rel p q st ll (by omega) hll hg.2.2
    have iha := weak_bits p q st ll hst hll a hg.2.1
    have ihb := weak_bits p q st ll hst hll b hg.2.2
    by_cases h20 : s = 20
    · simp only [Kt.weak, Kt.rows, if_pos h20]
      rw [testBit_andN, Bool.and_eq_true, iha x hx k hk, ihb x hx k hk, natAt_plus _ _ _ k (by rw [hra.len]; exact hk)]
      constructor
      · rintro ⟨h1, h2⟩ i hi
        rw [testBit_orN, Bool.or_eq_true] at hi
        exact hi.elim (h1 i) (h2 i)
      · intro h
        exact ⟨fun i hi => h i (by rw [testBit_orN, hi]; rfl), fun i hi => h i (by rw [testBit_orN, hi, Bool.or_true])⟩
    · simp only [Kt.weak, Kt.rows, if_neg h20]
      rw [iha _ (b.weak_lt p q st ll x hx) k hk, natAt_then _ _ _ k (by rw [hra.len]; exact hk), img_sub]
      constructor
      · intro h i hi hb
        exact (ihb x hx i (by rw [← hrb.len]; exact hi)).1 (h i hb)
      · intro h i hb
        have hi : i < st := testBit_lt (hra.lt' k (by rw [hra.len]; exact hk)) hb
        exact (ihb x hx i hi).2 (h i (by rw [hrb.len]; exact hi) hb)

/-! ### all but -/
def andnN (a b : Nat) : Nat := a &&& (2 ^ 64 - (b + 1))
theorem andnN_le (a b : Nat) : andnN a b ≤ a := Nat.and_le_left
theorem testBit_andnN (a b i : Nat) (ha : a < 4294967296) (hb : b < 4294967296) : (andnN a b).testBit i = (a.testBit i && !b.testBit i) := by
  unfold andnN
  rw [Nat.testBit_and, Nat.testBit_two_pow_sub_succ (by omega)]
  by_cases hi : i < 64
  · simp [hi]
  · rw [Nat.testBit_lt_two_pow (x := a) (Nat.lt_of_lt_of_le ha (Nat.pow_le_pow_right (n := 2) (i := 32) (by decide) (by omega)))]; simp
theorem i64_andnN (a b : Nat) (ha : a < 4294967296) (hb : b < 4294967296) : bits .andNot .i64 (a : Int) (b : Int) = ((andnN a b : Nat) : Int) := by
  have hx := andnN_le a b
  show IntKind.i64.wrap ((BitVec.ofInt 64 (a : Int) &&& ~~~BitVec.ofInt 64 (b : Int)).toNat : Int) = _
  rw [BitVec.toNat_and, BitVec.toNat_not, ofInt_i64 a (by omega), ofInt_i64 b (by omega), IntKind.wrap_i64]
  have e : 2 ^ 64 - 1 - b = 2 ^ 64 - (b + 1) := by omega
  rw [e]
  show _ = ((andnN a b : Nat) : Int)
  unfold andnN at *
  omega
theorem andnN_zero {a b : Nat} (ha : a < 4294967296) (hb : b < 4294967296) : andnN a b = 0 ↔ andN a b = a := by
  constructor
  · intro h
    apply andN_of_sub
    intro i hi
    have := testBit_andnN a b i ha hb
    rw [h, hi] at this
    simpa using this
  · intro h
    apply Nat.eq_of_testBit_eq
    intro i
    rw [testBit_andnN a b i ha hb]
    cases hi : a.testBit i
    · simp
    · rw [sub_of_andN h i hi]; simp
theorem andnN_all (s t : Nat) (hs : s ≤ 5) (ht : t < 2 ^ s) : andnN (2 ^ s - 1) t = 2 ^ s - 1 - t := by
  have h32 : 2 ^ s ≤ 32 := Nat.pow_le_pow_right (n := 2) (j := 5) (by decide) hs
  apply Nat.eq_of_testBit_eq
  intro i
  rw [testBit_andnN _ _ _ (by omega) (by omega), show 2 ^ s - 1 - t = 2 ^ s - (t + 1) by omega, Nat.testBit_two_pow_sub_succ ht, Nat.testBit_two_pow_sub_one]
end Go.Kt
