/- Merged texts: contracts and plain lemmas (Ya, Yb). -/
import Derived.Test.YtlaamecfknkmlaaGreatGu3
/- Plain law: what is left of an expression behind an atom and an action; where it may end; how much there can be. No program in sight. -/
namespace Go.Kt
set_option linter.unusedVariables false

/-- The test for the atoms at which an expression may end. -/
def Kt.ends : Kt → Nat
  | .leaf x => if x ≤ 15 then x.toNat else 0
  | .star _ => 15
  | .two s a b => if s = 19 then a.ends &&& b.ends else a.ends ||| b.ends
theorem Kt.ends_lt : ∀ t : Kt, t.ends < 16
  | .leaf x => by
    unfold Kt.ends
    split <;> omega
  | .star _ => by show 15 < 16; decide
  | .two s a b => by
    unfold Kt.ends
    split
    · exact Nat.lt_of_le_of_lt Nat.and_le_left a.ends_lt
    · exact Nat.or_lt_two_pow (n := 4) a.ends_lt b.ends_lt
/-- An expression behind another one. -/
def behindK (p t : Kt) : Kt := if p.words = [15] then t else .two 19 p t
/-- What is left of an expression behind an atom and an action, as it comes. -/
def Kt.part (at_ : Nat) (act : Int) : Kt → List Kt
  | .leaf x => if x = act then [.leaf 15] else []
  | .star a => (a.part at_ act).map (behindK · (.star a))
  | .two s a b => if s = 19 then (a.part at_ act).map (behindK · b) ++ (if a.ends.testBit at_ then b.part at_ act else []) else a.part at_ act ++ b.part at_ act
/-- All that can be left. -/
def Kt.pd : Kt → List Kt
  | .leaf x => if x ≤ 15 then [] else [.leaf 15]
  | .star a => a.pd.map (behindK · (.star a))
  | .two s a b => if s = 19 then a.pd.map (behindK · b) ++ b.pd else a.pd ++ b.pd
theorem behindK_good {p t : Kt} (hp : p.Good) (ht : t.Good) : (behindK p t).Good := by
  unfold behindK
  split
  · exact ht
  · exact ⟨.inl rfl, hp, ht⟩
theorem pd_good : ∀ (t : Kt), t.Good → ∀ p, p ∈ t.pd → p.Good
  | .leaf x, h, p, hp => by
    unfold Kt.pd at hp
    split at hp
    · cases hp
    · simp at hp; subst hp; exact ⟨by decide, by decide⟩
  | .star a, h, p, hp => by
    unfold Kt.pd at hp
    obtain ⟨q, hq, rfl⟩ := List.mem_map.1 hp
    exact behindK_good (pd_good a h q hq) h
  | .two s a b, h, p, hp => by
    unfold Kt.pd at hp
    split at hp
    · rcases List.mem_append.1 hp with hp | hp
      · obtain ⟨q, hq, rfl⟩ := List.mem_map.1 hp
        exact behindK_good (pd_good a h.2.1 q hq) h.2.2
      · exact pd_good b h.2.2 p hp
    · rcases List.mem_append.1 hp with hp | hp
      · exact pd_good a h.2.1 p hp
      · exact pd_good b h.2.2 p hp
theorem part_pd (at_ : Nat) (act : Int) (ha : 16 ≤ act) : ∀ (t : Kt) (p : Kt), p ∈ t.part at_ act → p ∈ t.pd
  | .leaf x, p, hp => by
    unfold Kt.part at hp
    split at hp
    · rename_i h
      unfold Kt.pd
      rw [if_neg (by omega)]; exact hp
    · cases hp
  | .star a, p, hp => by
    unfold Kt.part at hp
    obtain ⟨q, hq, rfl⟩ := List.mem_map.1 hp
    exact List.mem_map.2 ⟨q, part_pd at_ act ha a q hq, rfl⟩
  | .two s a b, p, hp => by
    unfold Kt.part at hp
    unfold Kt.pd
    split at hp
    · rename_i h
      rw [if_pos h]
      rcases List.mem_append.1 hp with hp | hp
      · obtain ⟨q, hq, rfl⟩ := List.mem_map.1 hp
        exact List.mem_append.2 (.inl (List.mem_map.2 ⟨q, part_pd at_ act ha a q hq, rfl⟩))
      · split at hp
        · exact List.mem_append.2 (.inr (part_pd at_ act ha b p hp))
        · cases hp
    · rename_i h
      rw [if_neg h]
      rcases List.mem_append.1 hp with hp | hp
      · exact List.mem_append.2 (.inl (part_pd at_ act ha a p hp))
      · exact List.mem_append.2 (.inr (part_pd at_ act ha b p hp))
/-- What is left of what is behind another one. -/
theorem part_behind {at_ : Nat} {act : Int} {q t : Kt} {p : Kt} (hp : p ∈ (behindK q t).part at_ act) : (∃ r, r ∈ q.part at_ act ∧ p = behindK r t) ∨ p ∈ t.part at_ act := by
  unfold behindK at hp
  split at hp
  · exact .inr hp
  · simp only [Kt.part, if_true] at hp
    rcases List.mem_append.1 hp with hp | hp
    · obtain ⟨r, hr, rfl⟩ := List.mem_map.1 hp
      exact .inl ⟨r, hr, rfl⟩
    · split at hp
      · exact .inr hp
      · cases hp
/-- What is left of what can be left can be left. -/
theorem pd_closed (at_ : Nat) (act : Int) (ha : 16 ≤ act) : ∀ (t : Kt) (q : Kt), q ∈ t.pd → ∀ p, p ∈ q.part at_ act → p ∈ t.pd
  | .leaf x, q, hq, p, hp => by
    unfold Kt.pd at hq
    split at hq
    · cases hq
    · simp at hq; subst hq
      simp only [Kt.part] at hp
      rw [if_neg (by omega)] at hp; cases hp
  | .star a, q, hq, p, hp => by
    unfold Kt.pd at hq
    obtain ⟨r, hr, rfl⟩ := List.mem_map.1 hq
    rcases part_behind hp with ⟨r', hr', rfl⟩ | hp
    · exact List.mem_map.2 ⟨r', pd_closed at_ act ha a r hr r' hr', rfl⟩
    · exact part_pd at_ act ha _ p hp
  | .two s a b, q, hq, p, hp => by
    unfold Kt.pd at hq ⊢
    split at hq
    · rename_i h
      rw [if_pos h]
      rcases List.mem_append.1 hq with hq | hq
      · obtain ⟨r, hr, rfl⟩ := List.mem_map.1 hq
        rcases part_behind hp with ⟨r', hr', rfl⟩ | hp
        · exact List.mem_append.2 (.inl (List.mem_map.2 ⟨r', pd_closed at_ act ha a r hr r' hr', rfl⟩))
        · exact List.mem_append.2 (.inr (part_pd at_ act ha b p hp))
      · exact List.mem_append.2 (.inr (pd_closed at_ act ha b q hq p hp))
    · rename_i h
      rw [if_neg h]
      rcases List.mem_append.1 hq with hq | hq
      · exact List.mem_append.2 (.inl (pd_closed at_ act ha a q hq p hp))
      · exact List.mem_append.2 (.inr (pd_closed at_ act ha b q hq p hp))
/-- How many actions an expression has. -/
def Kt.acts : Kt → Nat
  | .leaf x => if x ≤ 15 then 0 else 1
  | .star a => a.acts
  | .two _ a b => a.acts + b.acts
theorem pd_length : ∀ t : Kt, t.pd.length = t.acts
  | .leaf x => by unfold Kt.pd Kt.acts; split <;> rfl
  | .star a => by unfold Kt.pd Kt.acts; rw [List.length_map, pd_length a]
  | .two s a b => by
    unfold Kt.pd Kt.acts
    split
    · rw [List.length_append, List.length_map, pd_length a, pd_length b]
    · rw [List.length_append, pd_length a, pd_length b]
theorem acts_le : ∀ t : Kt, t.acts ≤ t.words.length
  | .leaf x => by unfold Kt.acts; split <;> simp [Kt.words]
  | .star a => by have := acts_le a; simp [Kt.words, Kt.acts]; omega
  | .two s a b => by have := acts_le a; have := acts_le b; simp [Kt.words, Kt.acts]; omega
theorem part_length (at_ : Nat) (act : Int) : ∀ t : Kt, (t.part at_ act).length ≤ t.words.length
  | .leaf x => by unfold Kt.part; split <;> simp [Kt.words]
  | .star a => by have := part_length at_ act a; simp [Kt.words, Kt.part]; omega
  | .two s a b => by
    have := part_length at_ act a
    have := part_length at_ act b
    unfold Kt.part
    split
    · split
      · simp [Kt.words]; omega
      · simp [Kt.words]; omega
    · simp [Kt.words]; omega
/-- How long what is left can be. -/
def Kt.bnd : Kt → Nat
  | .leaf _ => 1
  | .star a => a.bnd + a.words.length + 2
  | .two s a b => if s = 19 then max (a.bnd + b.words.length + 1) b.bnd else max a.bnd b.bnd
theorem bnd_pos : ∀ t : Kt, 1 ≤ t.bnd
  | .leaf _ => Nat.le_refl _
  | .star a => by unfold Kt.bnd; omega
  | .two s a b => by
    have := bnd_pos b
    unfold Kt.bnd; split <;> omega
theorem bnd_le : ∀ t : Kt, t.bnd ≤ t.words.length * (t.words.length + 1)
  | .leaf _ => by simp [Kt.bnd, Kt.words]
  | .star a => by
    have h := bnd_le a
    have e : (Kt.star a).words.length = a.words.length + 1 := by simp [Kt.words]
    rw [e]
    unfold Kt.bnd
    generalize a.words.length = n at *
    have : (n + 1) * (n + 1 + 1) = n * (n + 1) + 2 * n + 2 := by
      have e1 : (n + 1) * (n + 1 + 1) = (n + 1) * (n + 1) + (n + 1) := Nat.mul_succ _ _
      have e2 : (n + 1) * (n + 1) = n * (n + 1) + (n + 1) := Nat.succ_mul _ _
      omega
    generalize n * (n + 1) = A at *
    generalize (n + 1) * (n + 1 + 1) = C at *
    omega
  | .two s a b => by
    have h1 := bnd_le a
    have h2 := bnd_le b
    have e : (Kt.two s a b).words.length = a.words.length + b.words.length + 1 := by simp [Kt.words]; omega
    rw [e]
    unfold Kt.bnd
    generalize a.words.length = n at *
    generalize b.words.length = m at *
    have k1 : n * (n + 1) + m + 1 ≤ (n + m + 1) * (n + m + 1 + 1) := by
      have : n * (n + 1) ≤ (n + m + 1) * (n + m + 1) := Nat.mul_le_mul (by omega) (by omega)
      have e2 : (n + m + 1) * (n + m + 1 + 1) = (n + m + 1) * (n + m + 1) + (n + m + 1) := Nat.mul_succ _ _
      omega
    have k2 : m * (m + 1) ≤ (n + m + 1) * (n + m + 1 + 1) := Nat.mul_le_mul (by omega) (by omega)
    have k3 : n * (n + 1) ≤ (n + m + 1) * (n + m + 1 + 1) := Nat.mul_le_mul (by omega) (by omega)
    generalize n * (n + 1) = A at *
    generalize m * (m + 1) = C at *
    generalize (n + m + 1) * (n + m + 1 + 1) = D at *
    split <;> omega
theorem bnd_behind {p t : Kt} {k k' : Nat} (hp : p.bnd ≤ k) (hw : p.words.length ≤ k) (h1 : k + t.words.length + 1 ≤ k') (h2 : t.bnd ≤ k') (h3 : t.words.length ≤ k') : (behindK p t).bnd ≤ k' ∧ (behindK p t).words.length ≤ k' := by
  unfold behindK
  split
  · exact ⟨h2, h3⟩
  · constructor
    · unfold Kt.bnd; rw [if_pos rfl]; omega
    · simp [Kt.words]; omega
theorem pd_bnd : ∀ (t : Kt) (p : Kt), p ∈ t.pd → p.bnd ≤ t.bnd ∧ p.words.length ≤ t.bnd
  | .leaf x, p, hp => by
    unfold Kt.pd at hp
    split at hp
    · cases hp
    · simp at hp; subst hp; exact ⟨Nat.le_refl _, Nat.le_refl _⟩
  | .star a, p, hp => by
    unfold Kt.pd at hp
    obtain ⟨q, hq, rfl⟩ := List.mem_map.1 hp
    have h := pd_bnd a q hq
    have e : (Kt.star a).words.length = a.words.length + 1 := by simp [Kt.words]
    refine bnd_behind h.1 h.2 ?_ (Nat.le_refl _) ?_
    · rw [e]; show a.bnd + (a.words.length + 1) + 1 ≤ a.bnd + a.words.length + 2; omega
    · rw [e]; show a.words.length + 1 ≤ a.bnd + a.words.length + 2; omega
  | .two s a b, p, hp => by
    unfold Kt.pd at hp
    split at hp
    · rename_i h
      have e : (Kt.two s a b).bnd = max (a.bnd + b.words.length + 1) b.bnd := by simp [Kt.bnd, h]
      rcases List.mem_append.1 hp with hp | hp
      · obtain ⟨q, hq, rfl⟩ := List.mem_map.1 hp
        have h := pd_bnd a q hq
        exact bnd_behind h.1 h.2 (by rw [e]; omega) (by rw [e]; omega) (by rw [e]; omega)
      · have h := pd_bnd b p hp
        rw [e]; omega
    · rename_i h
      have e : (Kt.two s a b).bnd = max a.bnd b.bnd := by simp [Kt.bnd, h]
      rw [e]
      rcases List.mem_append.1 hp with hp | hp
      · have h := pd_bnd a p hp; omega
      · have h := pd_bnd b p hp; omega
end Go.Kt
/- Plain law: lists of lists in order, each once; what is left of an expression as such a list. No program in sight. -/
namespace Go.Kt
set_option linter.unusedVariables false

/-- The order of lists of numbers. -/
def ltL : List Int → List Int → Bool
  | _, [] => false
  | [], _ :: _ => true
  | a :: as, b :: bs => if a < b then true else if b < a then false else ltL as bs
theorem ltL_irr : ∀ x, ltL x x = false
  | [] => rfl
  | a :: as => by simp only [ltL]; rw [if_neg (by omega), if_neg (by omega)]; exact ltL_irr as
theorem ltL_trans : ∀ {x y z : List Int}, ltL x y = true → ltL y z = true → ltL x z = true
  | _, [], _, h, _ => by unfold ltL at h; cases h
  | _, _ :: _, [], _, h => by unfold ltL at h; cases h
  | [], _ :: _, _ :: _, _, _ => rfl
  | a :: as, b :: bs, c :: cs, h1, h2 => by
    simp only [ltL] at h1 h2 ⊢
    split at h1
    · split at h2
      · rw [if_pos (by omega)]
      · split at h2
        · cases h2
        · rw [if_pos (by omega)]
    · split at h1
      · cases h1
      · split at h2
        · rw [if_pos (by omega)]
        · split at h2
          · cases h2
          · rw [if_neg (by omega), if_neg (by omega)]
            exact ltL_trans h1 h2
theorem ltL_tri : ∀ {x y : List Int}, ltL x y = false → ltL y x = false → x = y
  | [], [], _, _ => rfl
  | [], _ :: _, h, _ => by unfold ltL at h; cases h
  | _ :: _, [], _, h => by unfold ltL at h; cases h
  | a :: as, b :: bs, h1, h2 => by
    simp only [ltL] at h1 h2
    split at h1
    · cases h1
    · split at h1
      · rw [if_pos (by assumption)] at h2; cases h2
      · rw [if_neg (by assumption), if_neg (by assumption)] at h2
        have e : a = b := by omega
        rw [e, ltL_tri h1 h2]
theorem ltL_asymm {x y : List Int} (h : ltL x y = true) : ltL y x = false := by
  cases h2 : ltL y x
  · rfl
  · have := ltL_trans h h2
    rw [ltL_irr] at this; cases this
/-- In order, each once. -/
def Asc (L : List (List Int)) : Prop := L.Pairwise (fun x y => ltL x y = true)
theorem asc_unique : ∀ {A B : List (List Int)}, Asc A → Asc B → (∀ x, x ∈ A ↔ x ∈ B) → A = B
  | [], [], _, _, _ => rfl
  | [], b :: B, _, _, h => by have := (h b).2 (by simp); cases this
  | a :: A, [], _, _, h => by have := (h a).1 (by simp); cases this
  | a :: A, b :: B, hA, hB, h => by
    have hA' := List.pairwise_cons.1 hA
    have hB' := List.pairwise_cons.1 hB
    have e : a = b := by
      rcases List.mem_cons.1 ((h a).1 (by simp)) with e | e
      · exact e
      · rcases List.mem_cons.1 ((h b).2 (by simp)) with e' | e'
        · exact e'.symm
        · have h1 := hB'.1 a e
          have h2 := hA'.1 b e'
          rw [ltL_asymm h1] at h2; cases h2
    subst e
    rw [asc_unique hA'.2 hB'.2 fun x => ?_]
    constructor
    · intro hx
      rcases List.mem_cons.1 ((h x).1 (List.mem_cons_of_mem _ hx)) with e | e
      · subst e
        have := hA'.1 x hx
        rw [ltL_irr] at this; cases this
      · exact e
    · intro hx
      rcases List.mem_cons.1 ((h x).2 (List.mem_cons_of_mem _ hx)) with e | e
      · subst e
        have := hB'.1 x hx
        rw [ltL_irr] at this; cases this
      · exact e
/-- A list in order with one more in its place. -/
def insL (x : List Int) : List (List Int) → List (List Int)
  | [] => [x]
  | y :: L => if ltL y x then y :: insL x L else if x = y then y :: L else x :: y :: L
theorem mem_insL (x z : List Int) : ∀ L, z ∈ insL x L ↔ z = x ∨ z ∈ L
  | [] => by simp [insL]
  | y :: L => by
    unfold insL
    split
    · rw [List.mem_cons, mem_insL x z L, List.mem_cons]
      constructor
      · rintro (h | h | h)
        · exact .inr (.inl h)
        · exact .inl h
        · exact .inr (.inr h)
      · rintro (h | h | h)
        · exact .inr (.inl h)
        · exact .inl h
        · exact .inr (.inr h)
    · split
      · rename_i h; subst h
        simp
      · simp
theorem asc_insL (x : List Int) : ∀ L, Asc L → Asc (insL x L)
  | [], _ => by simp [insL, Asc]
  | y :: L, h => by
    have h' := List.pairwise_cons.1 h
    unfold insL
    split
    · rename_i hy
      refine List.pairwise_cons.2 ⟨fun z hz => ?_, asc_insL x L h'.2⟩
      rcases (mem_insL x z L).1 hz with rfl | hz
      · exact hy
      · exact h'.1 z hz
    · rename_i hy
      split
      · exact h
      · rename_i hne
        have hxy : ltL x y = true := by
          cases hx : ltL x y
          · exact absurd (ltL_tri hx (by simpa using hy)) hne
          · rfl
        refine List.pairwise_cons.2 ⟨fun z hz => ?_, h⟩
        rcases List.mem_cons.1 hz with rfl | hz
        · exact hxy
        · exact ltL_trans hxy (h'.1 z hz)
theorem length_insL (x : List Int) : ∀ L, (insL x L).length ≤ L.length + 1
  | [] => by simp [insL]
  | y :: L => by
    have := length_insL x L
    unfold insL
    split
    · simp only [List.length_cons]; omega
    · split <;> simp
/-- A list in order, each once. -/
def ordL (L : List (List Int)) : List (List Int) := L.foldr insL []
theorem mem_ordL (z : List Int) : ∀ L, z ∈ ordL L ↔ z ∈ L
  | [] => Iff.rfl
  | x :: L => by
    show z ∈ insL x (ordL L) ↔ _
    rw [mem_insL, mem_ordL z L, List.mem_cons]
theorem asc_ordL : ∀ L, Asc (ordL L)
  | [] => List.Pairwise.nil
  | x :: L => asc_insL x _ (asc_ordL L)
theorem length_ordL : ∀ L, (ordL L).length ≤ L.length
  | [] => Nat.le_refl _
  | x :: L => by
    have h1 := length_insL x (ordL L)
    have h2 := length_ordL L
    show (insL x (ordL L)).length ≤ _
    simp only [List.length_cons]; omega
theorem ordL_unique {A L : List (List Int)} (hA : Asc A) (h : ∀ x, x ∈ A ↔ x ∈ L) : A = ordL L := asc_unique hA (asc_ordL L) fun x => (h x).trans (mem_ordL x L).symm
theorem ordL_congr {A L : List (List Int)} (h : ∀ x, x ∈ A ↔ x ∈ L) : ordL A = ordL L := ordL_unique (asc_ordL A) fun x => (mem_ordL x A).trans (h x)
/-- Lists in order by another way: neighbours that are not out of order, equal neighbours dropped. -/
def dedup : List (List Int) → List (List Int)
  | [] => []
  | [x] => [x]
  | x :: y :: L => if x = y then dedup (y :: L) else x :: dedup (y :: L)
theorem mem_dedup (z : List Int) : ∀ L, z ∈ dedup L ↔ z ∈ L
  | [] => Iff.rfl
  | [x] => Iff.rfl
  | x :: y :: L => by
    have ih := mem_dedup z (y :: L)
    unfold dedup
    split
    · rename_i h; subst h
      rw [ih]; simp
    · rw [List.mem_cons, ih, List.mem_cons (a := z) (b := x)]
theorem asc_dedup : ∀ L : List (List Int), L.Pairwise (fun x y => ltL y x = false) → Asc (dedup L)
  | [], _ => List.Pairwise.nil
  | [x], _ => by simp [dedup, Asc]
  | x :: y :: L, h => by
    have h' := List.pairwise_cons.1 h
    have ih := asc_dedup (y :: L) h'.2
    unfold dedup
    split
    · exact ih
    · rename_i hne
      refine List.pairwise_cons.2 ⟨fun z hz => ?_, ih⟩
      have hz' := (mem_dedup z (y :: L)).1 hz
      have hxy : ltL x y = true := by
        cases hc : ltL x y
        · exact absurd (ltL_tri hc (h'.1 y (by simp))) hne
        · rfl
      rcases List.mem_cons.1 hz' with rfl | hz'
      · exact hxy
      · have h2 := (List.pairwise_cons.1 h'.2).1 z hz'
        cases hc : ltL y z
        · rw [← ltL_tri hc h2]; exact hxy
        · exact ltL_trans hxy hc
theorem dedup_eq {A L : List (List Int)} (hs : A.Pairwise (fun x y => ltL y x = false)) (h : ∀ x, x ∈ A ↔ x ∈ L) : dedup A = ordL L :=
  ordL_unique (asc_dedup A hs) fun x => (mem_dedup x A).trans (h x)
/-- An expression behind another one, as lists. -/
def behindL (p t : List Int) : List Int := if p = [15] then t else p ++ t ++ [19]
theorem behind_words (p t : Kt) : (behindK p t).words = behindL p.words t.words := by
  unfold behindK behindL
  split
  · rfl
  · rfl
/-- What is left of an expression. -/
def partsL (at_ : Nat) (act : Int) (t : Kt) : List (List Int) := ordL ((t.part at_ act).map Kt.words)
theorem mem_partsL {at_ : Nat} {act : Int} {t : Kt} {x : List Int} : x ∈ partsL at_ act t ↔ ∃ p, p ∈ t.part at_ act ∧ p.words = x := by
  unfold partsL; rw [mem_ordL, List.mem_map]
theorem partsL_leaf (at_ : Nat) (act x : Int) (a : Nat) : partsL a act (.leaf x) = if x = act then [[15]] else [] := by
  unfold partsL Kt.part
  split <;> rfl
theorem partsL_plus (at_ : Nat) (act : Int) (a b : Kt) : partsL at_ act (.two 20 a b) = ordL (partsL at_ act a ++ partsL at_ act b) := by
  unfold partsL
  refine ordL_congr fun x => ?_
  rw [List.mem_append, mem_ordL, mem_ordL, Kt.part, if_neg (by decide), List.map_append, List.mem_append]
theorem partsL_star (at_ : Nat) (act : Int) (a : Kt) : partsL at_ act (.star a) = ordL ((partsL at_ act a).map (behindL · (Kt.star a).words)) := by
  show ordL _ = _
  refine ordL_congr fun x => ?_
  rw [Kt.part, List.map_map, List.mem_map, List.mem_map]
  constructor
  · rintro ⟨p, hp, rfl⟩
    exact ⟨p.words, mem_partsL.2 ⟨p, hp, rfl⟩, (behind_words p _).symm⟩
  · rintro ⟨y, hy, rfl⟩
    obtain ⟨p, hp, rfl⟩ := mem_partsL.1 hy
    exact ⟨p, hp, behind_words p _⟩
theorem partsL_then (at_ : Nat) (act : Int) (a b : Kt) : partsL at_ act (.two 19 a b) = ordL ((partsL at_ act a).map (behindL · b.words) ++ if a.ends.testBit at_ then partsL at_ act b else []) := by
  show ordL _ = _
  refine ordL_congr fun x => ?_
  rw [Kt.part, if_pos rfl, List.map_append, List.mem_append, List.mem_append]
  have h1 : x ∈ ((a.part at_ act).map (behindK · b)).map Kt.words ↔ x ∈ (partsL at_ act a).map (behindL · b.words) := by
    rw [List.map_map, List.mem_map, List.mem_map]
    constructor
    · rintro ⟨p, hp, rfl⟩
      exact ⟨p.words, mem_partsL.2 ⟨p, hp, rfl⟩, (behind_words p _).symm⟩
    · rintro ⟨y, hy, rfl⟩
      obtain ⟨p, hp, rfl⟩ := mem_partsL.1 hy
      exact ⟨p, hp, behind_words p _⟩
  have h2 : x ∈ (if a.ends.testBit at_ then b.part at_ act else []).map Kt.words ↔ x ∈ (if a.ends.testBit at_ then partsL at_ act b else []) := by
    split
    · rw [List.mem_map, mem_partsL]
    · exact Iff.rfl
  rw [h1, h2]
theorem partsL_len (at_ : Nat) (act : Int) (t : Kt) : (partsL at_ act t).length ≤ t.words.length := by
  have h1 := length_ordL ((t.part at_ act).map Kt.words)
  have h2 := part_length at_ act t
  rw [List.length_map] at h1
  unfold partsL; omega
theorem asc_partsL (at_ : Nat) (act : Int) (t : Kt) : Asc (partsL at_ act t) := asc_ordL _
end Go.Kt
