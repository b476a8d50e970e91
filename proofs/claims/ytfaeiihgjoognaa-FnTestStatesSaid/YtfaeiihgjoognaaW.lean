/- Plain laws of models, as the walks want them. No program in sight. -/
import Derived.Test.YtfaeiihgjoognaaU
import Derived.Test.YtfaeiihgjoognaaN
namespace Go.Proofs.Ytfaeiihgjoognaa
set_option linter.unusedVariables false
open Go.RowKit Go.Kt

theorem mvB_zero {st p q : Int} {ll : List (List Int)} (h : mvB st p q ll = true) : mvB st 0 0 ll = true := by
  simp only [mvB, decide_eq_true_eq] at h ⊢
  obtain ⟨h1, h2, h3, h4, h5, h6⟩ := h
  have := pow_pos' st.toNat
  exact ⟨h1, h2, ⟨by omega, by omega⟩, ⟨by omega, by omega⟩, h5, h6⟩
theorem mvB_short {st p q : Int} {ll : List (List Int)} (h : mvB st p q ll = true) : mvB st 0 0 (ll.drop 1) = false := by
  simp only [mvB, decide_eq_true_eq] at h
  simp only [mvB, decide_eq_false_iff_not]
  rintro ⟨-, -, -, -, e, -⟩
  obtain ⟨-, -, -, -, h5, -⟩ := h
  rw [List.length_drop] at e
  omega
theorem rowI_drop (ll : List (List Int)) (i : Nat) (h : i < (ll.drop 1).length) : rowI (ll.drop 1) i = rowI ll (i + 1) := by
  have h2 : i + 1 < ll.length := by rw [List.length_drop] at h; omega
  rw [rowI_getElem _ _ h, rowI_getElem _ _ h2]; simp
theorem mvB_nat {st p q : Int} {ll : List (List Int)} (h : mvB st p q ll = true) :
    ∃ (s P Q : Nat), st = s ∧ p = P ∧ q = Q ∧ 1 ≤ s ∧ s ≤ 5 ∧ P < 2 ^ s ∧ Q < 2 ^ s := by
  obtain ⟨s, P, Q, h1, h2, h3, h4, h5, h6, h7, _⟩ := mvB_bounds h
  exact ⟨s, P, Q, h1, h2, h3, h4, h5, h6, h7⟩
theorem not_bit (t a : Nat) (ht : t ≤ 15) (ha : a ≤ 3) : (15 - t).testBit a = !t.testBit a := by
  have h : ∀ t, t < 16 → ∀ a, a < 4 → (15 - t).testBit a = !t.testBit a := by decide
  exact h t (by omega) a (by omega)
theorem ts_not (p q : Int) (t : Nat) (ht : t ≤ 15) : ∀ k, tsTo p q t k + tsTo p q (15 - t) k + 1 = pow2 k
  | 0 => by simp [tsTo, pow2]
  | k + 1 => by
    have ih := ts_not p q t ht k
    have e : pow2 (k + 1) = pow2 k * 2 := Nat.pow_succ _ _
    rw [tsTo_succ, tsTo_succ, not_bit t _ ht (atomI_le p q k), e]
    cases t.testBit (atomI p q k) <;> simp <;> omega
theorem bit10 (b c : Bool) : (10 : Nat).testBit (b.toNat + 2 * c.toNat) = b := by cases b <;> cases c <;> decide
theorem bit12 (b c : Bool) : (12 : Nat).testBit (b.toNat + 2 * c.toNat) = c := by cases b <;> cases c <;> decide
theorem ts_10 (P Q s : Nat) (h : P < 2 ^ s) : tsTo P Q 10 s = P := by
  apply Nat.eq_of_testBit_eq
  intro i
  rw [Bool.eq_iff_iff, testBit_tsTo]
  unfold atomI
  rw [bit10, Int.toNat_natCast]
  exact ⟨fun h => h.2, fun hb => ⟨testBit_lt h hb, hb⟩⟩
theorem ts_12 (P Q s : Nat) (h : Q < 2 ^ s) : tsTo P Q 12 s = Q := by
  apply Nat.eq_of_testBit_eq
  intro i
  rw [Bool.eq_iff_iff, testBit_tsTo]
  unfold atomI
  rw [bit12, Int.toNat_natCast]
  exact ⟨fun h => h.2, fun hb => ⟨testBit_lt h hb, hb⟩⟩
theorem mbL_val {st p q : Int} {ll : List (List Int)} (h : mvB st p q ll = true) : mbL st p q ll = mapRows (backF st) ll ll.length := by unfold mbL; rw [h]; rfl
/-- Twice back a model is as before. -/
theorem mb_back {st p q : Int} {ll : List (List Int)} (h : mvB st p q ll = true) :
    mbI st p q ll st = st ∧ mbI st p q ll p = p ∧ mbI st p q ll q = q ∧ mvB st p q (mbL st p q ll) = true ∧ mbL st p q (mbL st p q ll) = ll := by
  obtain ⟨s, P, Q, rfl, rfl, rfl, h1, h5, hP, hQ, -, -, h3, hr⟩ := mvB_bounds h
  have hL := mbL_val h
  have hv : mvB s P Q (mbL s P Q ll) = true := by
    rw [hL]
    simp only [mvB, decide_eq_true_eq]
    refine ⟨by omega, by omega, ⟨by omega, by rw [Int.toNat_natCast]; exact_mod_cast hP⟩, ⟨by omega, by rw [Int.toNat_natCast]; exact_mod_cast hQ⟩, by rw [mapRows_length, h3], fun r hm => ?_⟩
    obtain ⟨i, hi, rfl⟩ := List.getElem_of_mem hm
    rw [mapRows_length] at hi
    rw [← rowI_getElem, mapRows_row _ _ _ _ hi]
    exact (backF_laws (hr i (by omega))).1
  refine ⟨by simp [mbI, h], by simp [mbI, h], by simp [mbI, h], hv, ?_⟩
  have hL2 := mbL_val hv
  rw [hL2, hL, mapRows_length]
  apply ext_rowI
  · rw [mapRows_length]
  · intro j hj
    rw [mapRows_length] at hj
    rw [mapRows_row _ _ _ _ hj, mapRows_row _ _ _ _ hj]
    exact (backF_laws (hr j (by omega))).2.1
end Go.Proofs.Ytfaeiihgjoognaa
