/- Merged texts: contracts and plain lemmas (Code). -/
import Derived.Test.YtlaamecfknkmlaaDoorMh14
/- Plain law: codes: what is valid, where jumps lead, what is reached. No program in sight. -/
namespace Go.Kt
set_option linter.unusedVariables false
open Go.RowKit

/-- The three of an instruction. -/
def kd (L : List Int) (i : Nat) : Int := nth L (i * 3)
def ag (L : List Int) (i : Nat) : Int := nth L (i * 3 + 1)
def tg (L : List Int) (i : Nat) : Int := nth L (i * 3 + 2)
def insB (n : Nat) (k a t : Int) : Bool :=
  if k = 0 then decide (16 ≤ a ∧ a ≤ 18) && decide (t = 0)
  else if k = 1 then decide (0 ≤ a ∧ a ≤ 15) && decide (0 ≤ t ∧ t < n)
  else if k = 2 then decide (a = 0) && decide (0 ≤ t ∧ t < n)
  else if k = 3 then decide (a = 0) && decide (t = 0)
  else false
/-- A code is valid. -/
def cvB (n : Nat) (L : List Int) : Bool := decide (1 ≤ n ∧ n ≤ 40 ∧ 2 ≤ kd L (n - 1) ∧ ∀ i, i < n → insB n (kd L i) (ag L i) (tg L i) = true)
theorem cvB_not {n : Nat} {L : List Int} {i : Nat} (hi : i < n) (h : insB n (kd L i) (ag L i) (tg L i) = false) : cvB n L = false := by
  simp only [cvB, decide_eq_false_iff_not]
  rintro ⟨_, _, _, d⟩
  rw [d i hi] at h
  cases h
theorem cvB_out {n : Nat} {L : List Int} (h : ¬ (1 ≤ n ∧ n ≤ 40)) : cvB n L = false := by
  simp only [cvB, decide_eq_false_iff_not]
  rintro ⟨h1, h2, _⟩
  exact h ⟨h1, h2⟩
theorem cvB_all {n : Nat} {L : List Int} (h1 : 1 ≤ n) (h2 : n ≤ 40) (h : ∀ i, i < n → insB n (kd L i) (ag L i) (tg L i) = true) : cvB n L = decide (2 ≤ kd L (n - 1)) := by
  rw [Bool.eq_iff_iff]
  simp only [cvB, decide_eq_true_eq]
  exact ⟨fun k => k.2.2.1, fun k => ⟨h1, h2, k, h⟩⟩
theorem cvB_bounds {n : Nat} {L : List Int} (h : cvB n L = true) : 1 ≤ n ∧ n ≤ 40 ∧ 2 ≤ kd L (n - 1) ∧ ∀ i, i < n → insB n (kd L i) (ag L i) (tg L i) = true := by simpa [cvB] using h
theorem insB_kind {n : Nat} {k a t : Int} (h : insB n k a t = true) : 0 ≤ k ∧ k ≤ 3 := by
  unfold insB at h
  by_cases h0 : k = 0
  · omega
  · by_cases h1 : k = 1
    · omega
    · by_cases h2 : k = 2
      · omega
      · by_cases h3 : k = 3
        · omega
        · simp [h0, h1, h2, h3] at h
theorem insB_goes {n : Nat} {k a t : Int} (h : insB n k a t = true) (hk : k = 1 ∨ k = 2) : 0 ≤ t ∧ t < n := by
  unfold insB at h
  rcases hk with rfl | rfl
  · simp at h; exact h.2
  · simp at h; exact h.2
/-! ### jumps -/
/-- Where jumps are after m steps from a. -/
def pos (L : List Int) (a : Nat) : Nat → Nat
  | 0 => a
  | m + 1 => (tg L (pos L a m)).toNat
theorem pos_add (L : List Int) (a b : Nat) (i j : Nat) (h : pos L a i = pos L b j) : ∀ d, pos L a (i + d) = pos L b (j + d)
  | 0 => h
  | d + 1 => by
    have := pos_add L a b i j h d
    rw [← Nat.add_assoc, ← Nat.add_assoc]
    simp only [pos]
    rw [this]
/-- The first of a, and so on, that is no jump, of so many; none if there is none. -/
def hop (L : List Int) : Nat → Nat → Option Nat
  | 0, _ => none
  | f + 1, a => if kd L a = 2 then hop L f (tg L a).toNat else some a
theorem pos_succ (L : List Int) (a : Nat) : ∀ m, pos L (tg L a).toNat m = pos L a (m + 1)
  | 0 => rfl
  | m + 1 => by simp only [pos]; rw [pos_succ L a m]; rfl
theorem hop_some (L : List Int) : ∀ (f a m : Nat), (∀ j, j < m → kd L (pos L a j) = 2) → kd L (pos L a m) ≠ 2 → m < f → hop L f a = some (pos L a m)
  | 0, _, _, _, _, h => absurd h (Nat.not_lt_zero _)
  | f + 1, a, 0, _, h2, _ => by
    have : ¬ kd L a = 2 := h2
    simp only [hop, if_neg this]; rfl
  | f + 1, a, m + 1, h1, h2, h3 => by
    have h0 : kd L a = 2 := h1 0 (by omega)
    simp only [hop, if_pos h0]
    rw [hop_some L f _ m (fun j hj => by rw [pos_succ]; exact h1 (j + 1) (by omega)) (by rw [pos_succ]; exact h2) (by omega), pos_succ]
theorem hop_none (L : List Int) : ∀ (f a : Nat), (∀ j, j < f → kd L (pos L a j) = 2) → hop L f a = none
  | 0, _, _ => rfl
  | f + 1, a, h => by
    have h0 : kd L a = 2 := h 0 (by omega)
    simp only [hop, if_pos h0]
    exact hop_none L f _ fun j hj => by rw [pos_succ]; exact h (j + 1) (by omega)
theorem pigeon : ∀ (n : Nat) (f : Nat → Nat), (∀ i, i ≤ n → f i < n) → ∃ i j, i < j ∧ j ≤ n ∧ f i = f j
  | 0, f, h => absurd (h 0 (Nat.le_refl _)) (Nat.not_lt_zero _)
  | n + 1, f, h => by
    by_cases hex : ∃ i, i ≤ n ∧ f i = f (n + 1)
    · obtain ⟨i, hi, he⟩ := hex
      exact ⟨i, n + 1, by omega, Nat.le_refl _, he⟩
    · have hno : ∀ i, i ≤ n → f i ≠ f (n + 1) := fun i hi he => hex ⟨i, hi, he⟩
      obtain ⟨i, j, hij, hj, he⟩ := pigeon n (fun i => if f i = n then f (n + 1) else f i) (fun i hi => by
        show (if f i = n then f (n + 1) else f i) < n
        have h1 := h i (by omega)
        have h2 := h (n + 1) (Nat.le_refl _)
        have h3 := hno i hi
        split <;> omega)
      refine ⟨i, j, hij, by omega, ?_⟩
      have h1 := hno i (by omega)
      have h2 := hno j hj
      split at he <;> split at he <;> omega
/-- Jumps that go on so long go on for ever. -/
theorem jumps_on {n : Nat} {L : List Int} {a : Nat} (hb : ∀ j, j ≤ n → pos L a j < n) (h : ∀ j, j ≤ n → kd L (pos L a j) = 2) : kd L (pos L a (n + 1)) = 2 := by
  obtain ⟨i, j, hij, hj, he⟩ := pigeon n (pos L a) hb
  have := pos_add L a a i j he (n + 1 - j)
  rw [show j + (n + 1 - j) = n + 1 by omega] at this
  rw [← this]
  exact h _ (by omega)
theorem pos_lt {n : Nat} {L : List Int} (h : ∀ i, i < n → insB n (kd L i) (ag L i) (tg L i) = true) {a : Nat} (ha : a < n) : ∀ m, (∀ j, j < m → kd L (pos L a j) = 2) → pos L a m < n
  | 0, _ => ha
  | m + 1, hk => by
    have h1 := pos_lt h ha m (fun j hj => hk j (by omega))
    have h2 := insB_goes (h _ h1) (.inr (hk m (by omega)))
    simp only [pos]
    omega
/-- Where an instruction goes when jumps to jumps are saved. -/
def thr (n : Nat) (L : List Int) (i : Nat) : Int :=
  if kd L i = 1 ∨ kd L i = 2 then (match hop L (n + 1) (tg L i).toNat with | some t => ((t : Nat) : Int) | none => tg L i) else tg L i
def thrTo (n : Nat) (L : List Int) (k : Nat) : List Int := (List.range (n * 3)).map fun j => if j % 3 = 2 ∧ j / 3 < k then thr n L (j / 3) else nth L j
theorem thrTo_length (n : Nat) (L : List Int) (k : Nat) : (thrTo n L k).length = n * 3 := by simp [thrTo]
theorem thrTo_get (n : Nat) (L : List Int) (k j : Nat) (h : j < n * 3) : nth (thrTo n L k) j = if j % 3 = 2 ∧ j / 3 < k then thr n L (j / 3) else nth L j := by
  rw [nth_getElem _ _ (by rw [thrTo_length]; exact h)]; simp [thrTo]
theorem thrTo_zero (n : Nat) (L : List Int) (h : L.length = n * 3) : thrTo n L 0 = L := by
  apply ext_nth
  · rw [thrTo_length, h]
  · intro j hj
    rw [thrTo_length] at hj
    rw [thrTo_get n L 0 j hj, if_neg (by omega)]
theorem nth_set (l : List Int) (k j : Nat) (u : Int) (h : j < l.length) : nth (l.set k u) j = if k = j then u else nth l j := by
  rw [nth_getElem _ _ (by simpa using h), List.getElem_set, nth_getElem _ _ h]
theorem thrTo_set (n : Nat) (L : List Int) (k : Nat) (h : k < n) : (thrTo n L k).set (k * 3 + 2) (thr n L k) = thrTo n L (k + 1) := by
  apply ext_nth
  · rw [List.length_set, thrTo_length, thrTo_length]
  · intro j hj
    rw [List.length_set, thrTo_length] at hj
    rw [nth_set _ _ _ _ (by rw [thrTo_length]; exact hj), thrTo_get n L k j hj, thrTo_get n L (k + 1) j hj]
    by_cases e : k * 3 + 2 = j
    · subst e
      have h1 : (k * 3 + 2) / 3 = k := by omega
      rw [if_pos rfl, if_pos (by omega), h1]
    · rw [if_neg e]
      by_cases h2 : j % 3 = 2 ∧ j / 3 < k
      · rw [if_pos h2, if_pos (by omega)]
      · rw [if_neg h2, if_neg (by omega)]
theorem thrTo_skip (n : Nat) (L : List Int) (k : Nat) (h : k < n) (he : thr n L k = tg L k) : thrTo n L k = thrTo n L (k + 1) := by
  rw [← thrTo_set n L k h, he]
  apply ext_nth
  · rw [List.length_set]
  · intro j hj
    rw [nth_set _ _ _ _ hj]
    rw [thrTo_length] at hj
    by_cases e : k * 3 + 2 = j
    · subst e
      rw [if_pos rfl, thrTo_get n L k _ hj, if_neg (by omega)]
      rfl
    · rw [if_neg e]
theorem thr_same (n : Nat) (L : List Int) (k : Nat) (h : ¬ (kd L k = 1 ∨ kd L k = 2)) : thr n L k = tg L k := by simp only [thr, if_neg h]
/-- CodeThread. -/
def thF (n : Nat) (L : List Int) : List Int := if cvB n L then thrTo n L n else []
/-! ### what is reached -/
inductive Reach (L : List Int) : Nat → Prop
  | start : Reach L 0
  | fall (i : Nat) : Reach L i → kd L i < 2 → Reach L (i + 1)
  | goto (i : Nat) : Reach L i → (kd L i = 1 ∨ kd L i = 2) → Reach L (tg L i).toNat
def nthB (l : List Bool) (i : Nat) : Bool := l.getD i false
theorem nthB_getElem (l : List Bool) (i : Nat) (h : i < l.length) : nthB l i = l[i] := by
  unfold nthB
  rw [List.getD_eq_getElem?_getD, List.getElem?_eq_getElem h]; rfl
theorem ext_nthB (l l' : List Bool) (h : l.length = l'.length) (e : ∀ j, j < l.length → nthB l j = nthB l' j) : l = l' := by
  apply List.ext_getElem h
  intro i h1 h2
  have := e i h1
  rwa [nthB_getElem l i h1, nthB_getElem l' i h2] at this
theorem nthB_set (l : List Bool) (k j : Nat) (u : Bool) (h : j < l.length) : nthB (l.set k u) j = if k = j then u else nthB l j := by
  rw [nthB_getElem _ _ (by simpa using h), List.getElem_set, nthB_getElem _ _ h]
open Classical in
noncomputable def reachL (n : Nat) (L : List Int) : List Bool := (List.range n).map fun i => decide (Reach L i)
theorem reachL_length (n : Nat) (L : List Int) : (reachL n L).length = n := by simp [reachL]
theorem reachL_get (n : Nat) (L : List Int) (i : Nat) (h : i < n) : nthB (reachL n L) i = true ↔ Reach L i := by
  rw [nthB_getElem _ _ (by rw [reachL_length]; exact h)]; simp [reachL]
/-- Closed at an instruction: what it leads to is marked. -/
def closedAt (L : List Int) (b : List Bool) (i : Nat) : Prop :=
  nthB b i = true → (kd L i < 2 → nthB b (i + 1) = true) ∧ ((kd L i = 1 ∨ kd L i = 2) → nthB b (tg L i).toNat = true)
theorem reach_is {n : Nat} {L : List Int} (hv : cvB n L = true) {b : List Bool} (hl : b.length = n) (h0 : nthB b 0 = true) (hs : ∀ i, i < n → nthB b i = true → Reach L i) (hc : ∀ i, i < n → closedAt L b i) : b = reachL n L := by
  obtain ⟨h1, h40, hlast, hall⟩ := cvB_bounds hv
  have hin : ∀ i, Reach L i → i < n ∧ nthB b i = true := by
    intro i hr
    induction hr with
    | start => exact ⟨by omega, h0⟩
    | fall i hr hk ih =>
      have := (hc i ih.1 ih.2).1 hk
      refine ⟨?_, this⟩
      rcases Nat.lt_or_ge (i + 1) n with h | h
      · exact h
      · have : i = n - 1 := by omega
        subst this; omega
    | goto i hr hk ih => exact ⟨by have := insB_goes (hall i ih.1) hk; omega, (hc i ih.1 ih.2).2 hk⟩
  apply ext_nthB
  · rw [reachL_length, hl]
  · intro j hj
    rw [Bool.eq_iff_iff, reachL_get n L j (by omega)]
    exact ⟨fun h => hs j (by omega) h, fun h => (hin j h).2⟩
noncomputable def rcF (n : Nat) (L : List Int) : List Bool := if cvB n L then reachL n L else []
/-- How many are marked. -/
def cnt (b : List Bool) : Nat := b.countP id
theorem cnt_le (b : List Bool) : cnt b ≤ b.length := List.countP_le_length
theorem cnt_set (b : List Bool) (k : Nat) (h : k < b.length) (hf : nthB b k = false) : cnt (b.set k true) = cnt b + 1 := by
  unfold cnt
  rw [nthB_getElem _ _ h] at hf
  rw [List.countP_set h]
  simp [hf]
end Go.Kt
