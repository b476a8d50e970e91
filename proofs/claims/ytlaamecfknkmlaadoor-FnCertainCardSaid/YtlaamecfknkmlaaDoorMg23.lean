/- Merged texts: contracts and plain lemmas (Rl). -/
import Derived.Test.YtlaamecfknkmlaaDoorMg16
/- Plain law: readers read no more steps than bytes. No program in sight. -/
namespace Go.Kt
set_option linter.unusedVariables false
/-- No more steps than bytes. -/
def FitsR (sub : Rdr) : Prop := ∀ x l r, sub x = some (l, r) → l.length + r.length ≤ x.length
theorem rWord_nil : rWord [] = none := by decide +kernel
theorem rWord_pos {w : List UInt8} {x : Int} (h : rWord w = some x) : 1 ≤ w.length := by
  cases w with
  | nil => rw [rWord_nil] at h; cases h
  | cons c w => simp
theorem single_fits {sub : Rdr} (hs : FitsR sub) : FitsR (rSingle sub) := by
  intro x l r h
  cases x with
  | nil => cases h
  | cons c x =>
    simp only [rSingle] at h
    split at h
    · cases hx : sub x with
      | none => rw [hx] at h; cases h
      | some p =>
        obtain ⟨m, y⟩ := p
        rw [hx] at h
        have h1 := hs _ _ _ hx
        cases y with
        | nil => cases h
        | cons d y =>
          simp only at h
          split at h
          · simp only [Option.some.injEq, Prod.mk.injEq] at h
            rw [← h.2, ← h.1]
            simp only [List.length_cons] at h1 ⊢
            omega
          · cases h
    · cases hw : rWord ((c :: x).take (wordN (c :: x))) with
      | none => rw [hw] at h; cases h
      | some y =>
        rw [hw] at h
        have h1 := rWord_pos hw
        simp only [Option.map_some, Option.some.injEq, Prod.mk.injEq] at h
        rw [← h.2, ← h.1, List.length_drop]
        rw [List.length_take] at h1
        simp only [List.length_cons, List.length_nil] at h1 ⊢
        omega
theorem stars_fits : ∀ (x : List UInt8) (l : List Int) {m : List Int} {r : List UInt8}, stars l x = some (m, r) → m.length + r.length ≤ l.length + x.length
  | [], l, m, r, h => by
    simp only [stars, Option.some.injEq, Prod.mk.injEq] at h
    rw [← h.2, ← h.1]; exact Nat.le_refl _
  | c :: x, l, m, r, h => by
    unfold stars at h
    split at h
    · have := stars_fits x _ h
      simp only [List.length_append, List.length_cons, List.length_nil] at this ⊢; omega
    · simp only [Option.some.injEq, Prod.mk.injEq] at h
      rw [← h.2, ← h.1]; exact Nat.le_refl _
theorem star_fits {sub : Rdr} (hs : FitsR sub) : FitsR (rStar sub) := by
  intro x l r h
  simp only [rStar] at h
  cases hx : rSingle sub x with
  | none => rw [hx] at h; cases h
  | some p =>
    obtain ⟨m, y⟩ := p
    rw [hx] at h
    have h1 := single_fits hs _ _ _ hx
    have h2 := stars_fits _ _ h
    omega
theorem more_fits {sub : Rdr} (hs : FitsR sub) (sign : UInt8) (op : Int) : ∀ (f : Nat) (l : List Int) (x : List UInt8) {m : List Int} {r : List UInt8}, more sub sign op f l x = some (m, r) → m.length + r.length ≤ l.length + x.length
  | 0, l, x, m, r, h => by cases h
  | f + 1, l, x, m, r, h => by
    cases x with
    | nil =>
      simp only [more, Option.some.injEq, Prod.mk.injEq] at h
      rw [← h.2, ← h.1]; exact Nat.le_refl _
    | cons c x =>
      simp only [more] at h
      split at h
      · cases hx : sub x with
        | none => rw [hx] at h; cases h
        | some p =>
          obtain ⟨m', y⟩ := p
          rw [hx] at h
          have h1 := hs _ _ _ hx
          have h2 := more_fits hs sign op f _ _ h
          simp only [List.length_append, List.length_cons, List.length_nil] at h2 ⊢
          omega
      · simp only [Option.some.injEq, Prod.mk.injEq] at h
        rw [← h.2, ← h.1]; exact Nat.le_refl _
theorem prod_fits {sub : Rdr} (hs : FitsR sub) : FitsR (rProd sub) := by
  intro x l r h
  simp only [rProd] at h
  cases hx : rStar sub x with
  | none => rw [hx] at h; cases h
  | some p =>
    obtain ⟨m, y⟩ := p
    rw [hx] at h
    have h1 := star_fits hs _ _ _ hx
    have h2 := more_fits (star_fits hs) 59 19 _ _ _ h
    omega
theorem sum_fits : ∀ d, FitsR (rSum d)
  | 0 => fun x l r h => by cases h
  | d + 1 => by
    intro x l r h
    simp only [rSum, rSum0] at h
    have hs := sum_fits d
    cases hx : rProd (rSum d) x with
    | none => rw [hx] at h; cases h
    | some p =>
      obtain ⟨m, y⟩ := p
      rw [hx] at h
      have h1 := prod_fits hs _ _ _ hx
      have h2 := more_fits (prod_fits hs) 43 20 _ _ _ h
      omega
end Go.Kt
