/- Merged texts: contracts and plain lemmas (Cn). -/
import Derived.Test.YtlaamecfknkmlaaDoorMg4
import Derived.Test.YtlaamecfknkmlaaDoorMg8
import Derived.Test.YtlaamecfknkmlaaDoorMg16
/- Plain law: in a certain model every action leads to one state, and the loop to one at most. No program in sight. -/
namespace Go.Kt
set_option linter.unusedVariables false

/-- How many states a set has. -/
def popTo (n : Nat) : Nat → Nat
  | 0 => 0
  | k + 1 => popTo n k + (n.testBit k).toNat
theorem popTo_le (n : Nat) : ∀ k, popTo n k ≤ k
  | 0 => Nat.le_refl _
  | k + 1 => by
    have := popTo_le n k
    simp only [popTo]
    cases n.testBit k <;> simp <;> omega
theorem pop_one : ∀ n, n < 32 → oneN n = true → popTo n 40 = 1 := by decide +kernel
def apartB (n : Nat) : Bool := (List.range 5).all fun i => (List.range 5).all fun j => !n.testBit i || !n.testBit j || i == j
theorem one_two' : ∀ n, n < 32 → oneN n = true → apartB n = true := by decide +kernel
theorem one_two (n : Nat) (hn : n < 32) (h : oneN n = true) (i : Nat) (hi : i < 5) (j : Nat) (hj : j < 5) (h1 : n.testBit i = true) (h2 : n.testBit j = true) : i = j := by
  have h3 := one_two' n hn h
  unfold apartB at h3
  rw [List.all_eq_true] at h3
  have h4 := h3 i (List.mem_range.2 hi)
  rw [List.all_eq_true] at h4
  have h5 := h4 j (List.mem_range.2 hj)
  rw [h1, h2] at h5
  simpa using h5
theorem pop_few' : ∀ n, n < 32 → apartB n = true → popTo n 40 ≤ 1 := by decide +kernel
theorem pop_few (n : Nat) (hn : n < 32) (h : ∀ i, i < 5 → ∀ j, j < 5 → n.testBit i = true → n.testBit j = true → i = j) : popTo n 40 ≤ 1 := by
  refine pop_few' n hn ?_
  unfold apartB
  rw [List.all_eq_true]
  intro i hi
  rw [List.all_eq_true]
  intro j hj
  cases h1 : n.testBit i
  · rfl
  · cases h2 : n.testBit j
    · rfl
    · simpa using h i (by simpa using hi) j (by simpa using hj) h1 h2
/-- The loop (p;(q;a+!q;b))*;!p. -/
def loopT : Kt := .two 19 (.star (.two 19 (.leaf 10) (.two 20 (.two 19 (.leaf 12) (.leaf 16)) (.two 19 (.leaf 3) (.leaf 17))))) (.leaf 5)
def loopL : List Int := [10, 12, 16, 19, 3, 17, 19, 20, 19, 21, 5, 19]
def loopS : ByteArray := ⟨#[40, 112, 59, 40, 113, 59, 97, 43, 33, 113, 59, 98, 41, 41, 42, 59, 33, 112]⟩
theorem loop_words : loopT.words = loopL := by decide
theorem loop_good : loopT.Good := by simp [loopT, Kt.Good]
theorem loop_read : readF (bs loopS) = some loopL := by decide +kernel
theorem kv_loop : kvB loopL = true := by decide +kernel
/-- One state at most. -/
def OneBy (st : Nat) (r : List Int) : Prop := ∀ i, i < st → ∀ j k, By r i j → By r i k → j = k
end Go.Kt
namespace Go.Proofs.YtlaamecfknkmlaaDoor
set_option linter.unusedVariables false
open Go.RowKit Go.Kt
theorem one_by {st : Nat} {r : List Int} (hr : Rel st r) (hst : st ≤ 5) (h : allOne r = true) : OneBy st r := by
  intro i hi j k hj hk
  have ho : oneN (natAt r i) = true := by
    unfold allOne at h
    rw [List.all_eq_true] at h
    exact h i (List.mem_range.2 (by rw [hr.len]; exact hi))
  have hl := hr.lt i hi
  have h32 : natAt r i < 32 := Nat.lt_of_lt_of_le hl (Nat.pow_le_pow_right (n := 2) (j := 5) (by decide) hst)
  exact one_two _ h32 ho j (by have := testBit_lt hl hj; omega) k (by have := testBit_lt hl hk; omega) hj hk
end Go.Proofs.YtlaamecfknkmlaaDoor
namespace Go.Kt
set_option linter.unusedVariables false
theorem bits_p : ∀ a, a ≤ 3 → ((10 : Nat).testBit a = true → (5 : Nat).testBit a = true → False) ∧ ((12 : Nat).testBit a = true → (3 : Nat).testBit a = true → False) := by decide
theorem body_leads {p q : Int} {st : Nat} {ll : List (List Int)} {x y : Nat} (h : Kt.Leads p q st ll (.two 19 (.leaf 10) (.two 20 (.two 19 (.leaf 12) (.leaf 16)) (.two 19 (.leaf 3) (.leaf 17)))) x y) :
    (10 : Nat).testBit (atomI p q x) = true ∧ (((12 : Nat).testBit (atomI p q x) = true ∧ By (rowI ll 0) x y) ∨ ((3 : Nat).testBit (atomI p q x) = true ∧ By (rowI ll 1) x y)) := by
  obtain ⟨k, ⟨rfl, h1⟩, h2⟩ : ∃ k, (x = k ∧ (10 : Nat).testBit (atomI p q x) = true) ∧ Kt.Leads p q st ll (.two 20 (.two 19 (.leaf 12) (.leaf 16)) (.two 19 (.leaf 3) (.leaf 17))) k y := h
  refine ⟨h1, ?_⟩
  rcases (show Kt.Leads p q st ll (.two 19 (.leaf 12) (.leaf 16)) x y ∨ Kt.Leads p q st ll (.two 19 (.leaf 3) (.leaf 17)) x y from h2) with h2 | h2
  · obtain ⟨k, ⟨rfl, h3⟩, h4⟩ : ∃ k, (x = k ∧ (12 : Nat).testBit (atomI p q x) = true) ∧ By (rowI ll 0) k y := h2
    exact .inl ⟨h3, h4⟩
  · obtain ⟨k, ⟨rfl, h3⟩, h4⟩ : ∃ k, (x = k ∧ (3 : Nat).testBit (atomI p q x) = true) ∧ By (rowI ll 1) k y := h2
    exact .inr ⟨h3, h4⟩
theorem loop_one (p q : Int) (st : Nat) (ll : List (List Int)) (h0 : OneBy st (rowI ll 0)) (h1 : OneBy st (rowI ll 1)) :
    ∀ i, i < st → (hlt : ∀ i j, i < st → (By (rowI ll 0) i j ∨ By (rowI ll 1) i j) → j < st) → ∀ j k, loopT.Leads p q st ll i j → loopT.Leads p q st ll i k → j = k := by
  intro i hi hlt j k hj hk
  have step : ∀ x, x < st → ∀ y z, Kt.Leads p q st ll (.two 19 (.leaf 10) (.two 20 (.two 19 (.leaf 12) (.leaf 16)) (.two 19 (.leaf 3) (.leaf 17)))) x y →
      Kt.Leads p q st ll (.two 19 (.leaf 10) (.two 20 (.two 19 (.leaf 12) (.leaf 16)) (.two 19 (.leaf 3) (.leaf 17)))) x z → y = z := by
    intro x hx y z hy hz
    have hb := (bits_p _ (atomI_le p q x)).2
    replace hy := body_leads hy
    replace hz := body_leads hz
    obtain ⟨_, hy⟩ := hy
    obtain ⟨_, hz⟩ := hz
    rcases hy with ⟨a1, b1⟩ | ⟨a1, b1⟩ <;> rcases hz with ⟨a2, b2⟩ | ⟨a2, b2⟩
    · exact h0 x hx y z b1 b2
    · exact absurd a2 (fun h => hb a1 h)
    · exact absurd a1 (fun h => hb a2 h)
    · exact h1 x hx y z b1 b2
  have stop : ∀ x y, Kt.Leads p q st ll (.two 19 (.leaf 10) (.two 20 (.two 19 (.leaf 12) (.leaf 16)) (.two 19 (.leaf 3) (.leaf 17)))) x y → (5 : Nat).testBit (atomI p q x) = true → False := by
    intro x y hy h5
    exact (bits_p _ (atomI_le p q x)).1 (body_leads hy).1 h5
  obtain ⟨j', hj1, hj2⟩ : ∃ j', Rtc (fun x y => x < st ∧ Kt.Leads p q st ll (.two 19 (.leaf 10) (.two 20 (.two 19 (.leaf 12) (.leaf 16)) (.two 19 (.leaf 3) (.leaf 17)))) x y) i j' ∧ (j' = j ∧ (5 : Nat).testBit (atomI p q j') = true) := hj
  obtain ⟨k', hk1, hk2⟩ : ∃ j', Rtc (fun x y => x < st ∧ Kt.Leads p q st ll (.two 19 (.leaf 10) (.two 20 (.two 19 (.leaf 12) (.leaf 16)) (.two 19 (.leaf 3) (.leaf 17)))) x y) i j' ∧ (j' = k ∧ (5 : Nat).testBit (atomI p q j') = true) := hk
  obtain ⟨rfl, hj5⟩ := hj2
  obtain ⟨rfl, hk5⟩ := hk2
  clear hi
  induction hj1 with
  | refl x =>
    cases hk1 with
    | refl => rfl
    | head h _ => exact (stop _ _ h.2 hj5).elim
  | head h t ih =>
    cases hk1 with
    | refl => exact (stop _ _ h.2 hk5).elim
    | head h' t' =>
      have e := step _ h.1 _ _ h.2 h'.2
      subst e
      exact ih t' hj5
end Go.Kt
namespace Go.Proofs.YtlaamecfknkmlaaDoor
set_option linter.unusedVariables false
open Go.RowKit Go.Kt
/-- What the law asks of a certain model. -/
theorem cert_parts {st : Nat} {P Q : Nat} {ll : List (List Int)} (hst : st ≤ 5) (h : certF st P Q ll = true) (h3 : ll.length = 3) (hll : ∀ i, i < 3 → Rel st (rowI ll i)) :
    (∀ k, k < 3 → ∀ j, j < st → popTo (natAt (rowI ll k) j) 40 = 1) ∧ (∀ j, j < st → popTo (natAt (loopT.rows P Q st ll) j) 40 ≤ 1) := by
  unfold certF at h
  rw [Bool.and_eq_true, List.all_eq_true] at h
  have hone : ∀ k, k < 3 → allOne (rowI ll k) = true := fun k hk => h.2 k (List.mem_range.2 (by omega))
  have h32 : ∀ {r : List Int}, Rel st r → ∀ j, j < st → natAt r j < 32 := fun hr j hj => Nat.lt_of_lt_of_le (hr.lt j hj) (Nat.pow_le_pow_right (n := 2) (j := 5) (by decide) hst)
  constructor
  · intro k hk j hj
    have ho := hone k hk
    unfold allOne at ho
    rw [List.all_eq_true] at ho
    exact pop_one _ (h32 (hll k hk) j hj) (ho j (List.mem_range.2 (by rw [(hll k hk).len]; exact hj)))
  · intro j hj
    have hr := loopT.rows_rel P Q st ll (by omega) hll loop_good
    refine pop_few _ (h32 hr j hj) fun a ha b hb h1 h2 => ?_
    have hl := leads_iff P Q st ll hst hll loopT loop_good j hj
    exact loop_one P Q st ll (one_by (hll 0 (by decide)) hst (hone 0 (by decide))) (one_by (hll 1 (by decide)) hst (hone 1 (by decide))) j hj
      (fun x y hx hxy => hxy.elim (by_lt (hll 0 (by decide)) hx) (by_lt (hll 1 (by decide)) hx)) a b ((hl a).1 h1) ((hl b).1 h2)
end Go.Proofs.YtlaamecfknkmlaaDoor
