/- Merged texts: contracts and plain lemmas (Sets2, I). -/
import Derived.Test.YtlaamecfknkmlaaGreatGu1
import Derived.Test.YtlaamecfknkmlaaGreatGu7
/- Plain law: what rows of sets obey: brackets, again and again, back. No program in sight. -/
namespace Go.Kt
set_option linter.unusedVariables false

/-- All of s is in t. -/
def Sub (s t : Nat) : Prop := ∀ i, s.testBit i = true → t.testBit i = true
theorem Sub.refl (s : Nat) : Sub s s := fun _ h => h
theorem Sub.trans {a b c : Nat} (h : Sub a b) (k : Sub b c) : Sub a c := fun i hi => k i (h i hi)
theorem Sub.antisymm {a b : Nat} (h : Sub a b) (k : Sub b a) : a = b := by
  apply Nat.eq_of_testBit_eq
  intro i
  rw [Bool.eq_iff_iff]
  exact ⟨h i, k i⟩
theorem testBit_orN (a b i : Nat) : (orN a b).testBit i = (a.testBit i || b.testBit i) := Nat.testBit_or a b i
theorem testBit_andN (a b i : Nat) : (andN a b).testBit i = (a.testBit i && b.testBit i) := Nat.testBit_and a b i
theorem andN_of_sub {a b : Nat} (h : Sub a b) : andN a b = a := by
  apply Nat.eq_of_testBit_eq
  intro i
  rw [testBit_andN]
  cases ha : a.testBit i
  · rfl
  · rw [h i ha]; rfl
theorem sub_of_andN {a b : Nat} (h : andN a b = a) : Sub a b := fun i hi => by
  have := testBit_andN a b i
  rw [h, hi] at this
  simpa using this.symm
theorem orN_of_sub {a b : Nat} (h : Sub b a) : orN a b = a := by
  apply Nat.eq_of_testBit_eq
  intro i
  rw [testBit_orN]
  cases hb : b.testBit i
  · simp
  · rw [h i hb]; rfl
theorem sub_of_orN {a b : Nat} (h : orN a b = a) : Sub b a := fun i hi => by
  have := testBit_orN a b i
  rw [h, hi] at this
  simpa using this
theorem testBit_pow2 (k i : Nat) : (pow2 k).testBit i = decide (k = i) := Nat.testBit_two_pow
theorem testBit_lt {s n i : Nat} (h : s < 2 ^ n) (hi : s.testBit i = true) : i < n := by
  apply Decidable.byContradiction
  intro hn
  rw [Nat.testBit_lt_two_pow (Nat.lt_of_lt_of_le h (Nat.pow_le_pow_right (by decide) (by omega)))] at hi
  cases hi

theorem testBit_imgTo (b : List Int) (s t : Nat) : ∀ k, (imgTo b s k).testBit t = true ↔ ∃ i, i < k ∧ s.testBit i = true ∧ (natAt b i).testBit t = true
  | 0 => by simp [imgTo]
  | k + 1 => by
    rw [imgTo_succ]
    split
    · rename_i h
      rw [testBit_orN, Bool.or_eq_true, testBit_imgTo b s t k]
      constructor
      · rintro (⟨i, h1, h2, h3⟩ | h1)
        · exact ⟨i, by omega, h2, h3⟩
        · exact ⟨k, by omega, h, h1⟩
      · rintro ⟨i, h1, h2, h3⟩
        by_cases hik : i = k
        · subst hik; exact .inr h3
        · exact .inl ⟨i, by omega, h2, h3⟩
    · rename_i h
      rw [testBit_imgTo b s t k]
      constructor
      · rintro ⟨i, h1, h2, h3⟩; exact ⟨i, by omega, h2, h3⟩
      · rintro ⟨i, h1, h2, h3⟩
        by_cases hik : i = k
        · subst hik; exact absurd h2 h
        · exact ⟨i, by omega, h2, h3⟩
theorem testBit_img (b : List Int) (s t : Nat) : (img b s).testBit t = true ↔ ∃ i, i < b.length ∧ s.testBit i = true ∧ (natAt b i).testBit t = true := testBit_imgTo b s t _
theorem img_mono (b : List Int) {s t : Nat} (h : Sub s t) : Sub (img b s) (img b t) := fun i hi => by
  obtain ⟨j, h1, h2, h3⟩ := (testBit_img b s i).1 hi
  exact (testBit_img b t i).2 ⟨j, h1, h j h2, h3⟩
theorem img_pow2 (b : List Int) (k : Nat) (h : k < b.length) : img b (pow2 k) = natAt b k := by
  apply Nat.eq_of_testBit_eq
  intro i
  rw [Bool.eq_iff_iff, testBit_img]
  constructor
  · rintro ⟨j, h1, h2, h3⟩
    rw [testBit_pow2, decide_eq_true_eq] at h2
    subst h2; exact h3
  · intro h1; exact ⟨k, h, by rw [testBit_pow2]; simp, h1⟩
theorem testBit_backSet (a : List Int) (t s : Nat) : ∀ j, (backSet a t j).testBit s = true ↔ s < j ∧ (natAt a s).testBit t = true
  | 0 => by simp [backSet]
  | j + 1 => by
    cases hb : (natAt a j).testBit t
    · rw [backSet_succ, hb]
      simp only [Bool.false_eq_true, if_false, Nat.add_zero]
      rw [testBit_backSet a t s j]
      constructor
      · rintro ⟨h1, h2⟩; exact ⟨by omega, h2⟩
      · rintro ⟨h1, h2⟩
        by_cases hsj : s = j
        · subst hsj; rw [hb] at h2; cases h2
        · exact ⟨by omega, h2⟩
    · rw [← backSet_or a t j hb, testBit_orN, Bool.or_eq_true, testBit_backSet a t s j, testBit_pow2, decide_eq_true_eq]
      constructor
      · rintro (⟨h1, h2⟩ | rfl)
        · exact ⟨by omega, h2⟩
        · exact ⟨by omega, hb⟩
      · rintro ⟨h1, h2⟩
        by_cases hsj : s = j
        · exact .inr hsj.symm
        · exact .inl ⟨by omega, h2⟩

/-! ### natAt of the lists that are made -/
theorem natAt_cast {l : List Int} {i n : Nat} (h : nth l i = ((n : Nat) : Int)) : natAt l i = n := by
  unfold natAt; rw [h]; rfl
theorem natAt_plus (a b : List Int) (k i : Nat) (h : i < k) : natAt (plusTo a b k) i = orN (natAt a i) (natAt b i) := natAt_cast (plusTo_get a b k i h)
theorem natAt_then (a b : List Int) (k i : Nat) (h : i < k) : natAt (thenTo a b k) i = img b (natAt a i) := natAt_cast (thenTo_get a b k i h)
theorem natAt_star (a : List Int) (k i : Nat) (h : i < k) : natAt (starTo a k) i = clo a (pow2 i) := natAt_cast (starTo_get a k i h)
theorem natAt_back (a : List Int) (k i : Nat) (h : i < k) : natAt (backTo a k) i = backSet a i a.length := natAt_cast (backTo_get a k i h)
/-- Two lists of sets with the same sets are the same. -/
theorem ext_natAt (l l' : List Int) (hs : Sets l) (hs' : Sets l') (h : l.length = l'.length) (e : ∀ j, j < l.length → natAt l j = natAt l' j) : l = l' :=
  ext_nth l l' h fun j hj => by rw [hs.eq j hj, hs'.eq j (by omega), e j hj]
theorem sets_of_cast {l : List Int} (f : Nat → Nat) (h : ∀ i, i < l.length → nth l i = ((f i : Nat) : Int)) (hf : ∀ i, i < l.length → f i < 4294967296) : Sets l := fun i hi => by
  have := hf i hi
  rw [h i hi]; omega

/-! ### rows of at most 31 states: n sets of states below n -/
structure Rel (n : Nat) (l : List Int) : Prop where
  len : l.length = n
  le : n ≤ 31
  sets : Sets l
  lt : ∀ i, i < n → natAt l i < 2 ^ n
theorem two_pow_31 {n m : Nat} (h : n ≤ 31) (hm : m < 2 ^ n) : m < 4294967296 := Nat.lt_of_lt_of_le hm (Nat.pow_le_pow_right (by decide) (show n ≤ 32 by omega))
theorem Rel.lt' {n : Nat} {l : List Int} (h : Rel n l) : ∀ i, i < l.length → natAt l i < 2 ^ n := fun i hi => h.lt i (by rw [h.len] at hi; exact hi)
theorem Rel.img_lt {n : Nat} {l : List Int} (h : Rel n l) (s : Nat) : img l s < 2 ^ n := Go.Kt.img_lt h.lt' s
theorem Rel.thenTo {n : Nat} {a b : List Int} (ha : Rel n a) (hb : Rel n b) : Rel n (thenTo a b a.length) := by
  have hl : (Go.Kt.thenTo a b a.length).length = n := by rw [thenTo_length, ha.len]
  refine ⟨hl, ha.le, ?_, ?_⟩
  · refine sets_of_cast (fun i => img b (natAt a i)) (fun i hi => thenTo_get a b _ i (by rw [thenTo_length] at hi; exact hi)) fun i _ => two_pow_31 ha.le (hb.img_lt _)
  · intro i hi
    rw [natAt_then a b _ i (by rw [ha.len]; exact hi)]
    exact hb.img_lt _
theorem Rel.plusTo {n : Nat} {a b : List Int} (ha : Rel n a) (hb : Rel n b) : Rel n (plusTo a b a.length) := by
  have hl : (Go.Kt.plusTo a b a.length).length = n := by rw [plusTo_length, ha.len]
  have hlt : ∀ i, i < n → orN (natAt a i) (natAt b i) < 2 ^ n := fun i hi => orN_lt (ha.lt i hi) (hb.lt i hi)
  refine ⟨hl, ha.le, ?_, ?_⟩
  · refine sets_of_cast (fun i => orN (natAt a i) (natAt b i)) (fun i hi => plusTo_get a b _ i (by rw [plusTo_length] at hi; exact hi)) fun i hi => two_pow_31 ha.le (hlt i (by omega))
  · intro i hi
    rw [natAt_plus a b _ i (by rw [ha.len]; exact hi)]
    exact hlt i hi
theorem pow2_lt_two {n i : Nat} (h : i < n) : pow2 i < 2 ^ n := Nat.pow_lt_pow_right (by decide) h
theorem Rel.backTo {n : Nat} {a : List Int} (ha : Rel n a) : Rel n (backTo a a.length) := by
  have hl : (Go.Kt.backTo a a.length).length = n := by rw [backTo_length, ha.len]
  have hlt : ∀ i, backSet a i a.length < 2 ^ n := fun i => by have := backSet_lt a i a.length; rwa [ha.len] at this ⊢
  refine ⟨hl, ha.le, ?_, ?_⟩
  · refine sets_of_cast (fun i => backSet a i a.length) (fun i hi => backTo_get a _ i (by rw [backTo_length] at hi; exact hi)) fun i _ => two_pow_31 ha.le (hlt i)
  · intro i hi
    rw [natAt_back a _ i (by rw [ha.len]; exact hi)]
    exact hlt i
theorem then_assoc {n : Nat} {a b c : List Int} (ha : Rel n a) (hb : Rel n b) (hc : Rel n c) :
    thenTo (thenTo a b a.length) c (thenTo a b a.length).length = thenTo a (thenTo b c b.length) a.length := by
  have h1 := (ha.thenTo hb).thenTo hc
  have h2 := ha.thenTo (hb.thenTo hc)
  refine ext_natAt _ _ h1.sets h2.sets (by rw [h1.len, h2.len]) fun j hj => ?_
  rw [h1.len] at hj
  rw [natAt_then _ _ _ j (by rw [thenTo_length, ha.len]; exact hj), natAt_then a b _ j (by rw [ha.len]; exact hj), natAt_then _ _ _ j (by rw [ha.len]; exact hj)]
  apply Nat.eq_of_testBit_eq
  intro t
  rw [Bool.eq_iff_iff, testBit_img, testBit_img]
  constructor
  · rintro ⟨i, h3, h4, h5⟩
    obtain ⟨k, h6, h7, h8⟩ := (testBit_img b _ i).1 h4
    refine ⟨k, by rw [thenTo_length]; exact h6, h7, ?_⟩
    rw [natAt_then b c _ k h6, testBit_img]
    exact ⟨i, h3, h8, h5⟩
  · rintro ⟨k, h6, h7, h8⟩
    rw [thenTo_length] at h6
    rw [natAt_then b c _ k h6, testBit_img] at h8
    obtain ⟨i, h3, h4, h5⟩ := h8
    exact ⟨i, h3, (testBit_img b _ i).2 ⟨k, h6, h7, h4⟩, h5⟩
theorem back_then {n : Nat} {a b : List Int} (ha : Rel n a) (hb : Rel n b) :
    backTo (thenTo a b a.length) (thenTo a b a.length).length = thenTo (backTo b b.length) (backTo a a.length) (backTo b b.length).length := by
  have h1 := (ha.thenTo hb).backTo
  have h2 := hb.backTo.thenTo ha.backTo
  refine ext_natAt _ _ h1.sets h2.sets (by rw [h1.len, h2.len]) fun j hj => ?_
  rw [h1.len] at hj
  rw [natAt_back _ _ j (by rw [thenTo_length, ha.len]; exact hj), natAt_then _ _ _ j (by rw [backTo_length, hb.len]; exact hj), natAt_back b _ j (by rw [hb.len]; exact hj)]
  apply Nat.eq_of_testBit_eq
  intro s
  rw [Bool.eq_iff_iff, testBit_backSet, testBit_img, thenTo_length]
  constructor
  · rintro ⟨h3, h4⟩
    rw [natAt_then a b _ s h3, testBit_img] at h4
    obtain ⟨i, h5, h6, h7⟩ := h4
    refine ⟨i, by rw [backTo_length, ha.len, ← hb.len]; exact h5, (testBit_backSet b j i _).2 ⟨h5, h7⟩, ?_⟩
    rw [natAt_back a _ i (by rw [ha.len, ← hb.len]; exact h5)]
    exact (testBit_backSet a i s _).2 ⟨h3, h6⟩
  · rintro ⟨i, h3, h4, h5⟩
    rw [backTo_length] at h3
    rw [natAt_back a _ i h3] at h5
    obtain ⟨h6, h7⟩ := (testBit_backSet b j i _).1 h4
    obtain ⟨h8, h9⟩ := (testBit_backSet a i s _).1 h5
    refine ⟨h8, ?_⟩
    rw [natAt_then a b _ s h8, testBit_img]
    exact ⟨i, h6, h9, h7⟩
theorem back_back {n : Nat} {a : List Int} (ha : Rel n a) : backTo (backTo a a.length) (backTo a a.length).length = a := by
  have h1 := ha.backTo.backTo
  refine ext_natAt _ _ h1.sets ha.sets (by rw [h1.len, ha.len]) fun j hj => ?_
  rw [h1.len] at hj
  rw [natAt_back _ _ j (by rw [backTo_length, ha.len]; exact hj)]
  apply Nat.eq_of_testBit_eq
  intro s
  rw [Bool.eq_iff_iff, testBit_backSet, backTo_length]
  constructor
  · rintro ⟨h3, h4⟩
    rw [natAt_back a _ s h3] at h4
    exact ((testBit_backSet a s j _).1 h4).2
  · intro h3
    have hs : s < n := testBit_lt (ha.lt j hj) h3
    refine ⟨by rw [ha.len]; exact hs, ?_⟩
    rw [natAt_back a _ s (by rw [ha.len]; exact hs)]
    exact (testBit_backSet a s j _).2 ⟨by rw [ha.len]; exact hj, h3⟩
theorem plus_comm' {n : Nat} {a b : List Int} (ha : Rel n a) (hb : Rel n b) : plusTo b a b.length = plusTo a b a.length := by
  have h1 := hb.plusTo ha
  have h2 := ha.plusTo hb
  refine ext_natAt _ _ h1.sets h2.sets (by rw [h1.len, h2.len]) fun j hj => ?_
  rw [h1.len] at hj
  rw [natAt_plus _ _ _ j (by rw [hb.len]; exact hj), natAt_plus _ _ _ j (by rw [ha.len]; exact hj)]
  exact Nat.or_comm _ _

/-! ### again and again -/
theorem iter_grows (a : List Int) (s : Nat) : ∀ i, (∀ j, j < i → stepN a (iterN a s j) ≠ iterN a s j) → i ≤ iterN a s i
  | 0, _ => Nat.zero_le _
  | i + 1, h => by
    have h1 := iter_grows a s i (fun j hj => h j (by omega))
    have h2 := h i (by omega)
    have h3 := stepN_ge a (iterN a s i)
    rw [iterN_succ]
    omega
/-- At most 5 states: the closure is closed. -/
theorem clo_fix {n : Nat} {a : List Int} (ha : Rel n a) (hn : n ≤ 5) {s : Nat} (hs : s < 2 ^ n) : stepN a (clo a s) = clo a s := by
  apply Decidable.byContradiction
  intro hne
  have hall : ∀ j, j < 32 → stepN a (iterN a s j) ≠ iterN a s j := by
    intro j hj he
    exact hne (by rw [clo_of_fix a s j (by omega) he]; exact he)
  have h1 := iter_grows a s 32 hall
  have h2 := iterN_lt ha.lt' hs 32
  have h3 : (2 : Nat) ^ n ≤ 2 ^ 5 := Nat.pow_le_pow_right (by decide) hn
  omega
theorem clo_img {n : Nat} {a : List Int} (ha : Rel n a) (hn : n ≤ 5) {s : Nat} (hs : s < 2 ^ n) : Sub (img a (clo a s)) (clo a s) := sub_of_orN (clo_fix ha hn hs)
theorem sub_step (a : List Int) (s : Nat) : Sub s (stepN a s) := fun i hi => by rw [stepN, testBit_orN, hi]; rfl
theorem sub_iter (a : List Int) (s : Nat) : ∀ i, Sub s (iterN a s i)
  | 0 => Sub.refl s
  | i + 1 => (sub_iter a s i).trans (sub_step a _)
theorem sub_clo (a : List Int) (s : Nat) : Sub s (clo a s) := sub_iter a s 32
/-- It is the least closed set. -/
theorem clo_least (a : List Int) {s x : Nat} (h : Sub s x) (hx : Sub (img a x) x) : Sub (clo a s) x := by
  have : ∀ i, Sub (iterN a s i) x := by
    intro i
    induction i with
    | zero => exact h
    | succ i ih =>
      intro t ht
      rw [iterN_succ, stepN, testBit_orN, Bool.or_eq_true] at ht
      rcases ht with ht | ht
      · exact ih t ht
      · exact hx t (img_mono a ih t ht)
  exact this 32
theorem Rel.starTo {n : Nat} {a : List Int} (ha : Rel n a) : Rel n (starTo a a.length) := by
  have hl : (Go.Kt.starTo a a.length).length = n := by rw [starTo_length, ha.len]
  have hlt : ∀ i, i < n → clo a (pow2 i) < 2 ^ n := fun i hi => clo_lt ha.lt' (pow2_lt_two hi)
  refine ⟨hl, ha.le, ?_, ?_⟩
  · refine sets_of_cast (fun i => clo a (pow2 i)) (fun i hi => starTo_get a _ i (by rw [starTo_length] at hi; exact hi)) fun i hi => two_pow_31 ha.le (hlt i (by omega))
  · intro i hi
    rw [natAt_star a _ i (by rw [ha.len]; exact hi)]
    exact hlt i hi
/-- From a closed set the closure's rows lead to it. -/
theorem img_star {n : Nat} {a : List Int} (ha : Rel n a) {x : Nat} (hx : x < 2 ^ n) (hc : Sub (img a x) x) : img (starTo a a.length) x = x := by
  apply Sub.antisymm
  · intro t ht
    obtain ⟨i, h1, h2, h3⟩ := (testBit_img _ _ t).1 ht
    rw [starTo_length] at h1
    rw [natAt_star a _ i h1] at h3
    refine clo_least a (fun j hj => ?_) hc t h3
    rw [testBit_pow2, decide_eq_true_eq] at hj
    subst hj; exact h2
  · intro t ht
    have htn : t < n := testBit_lt hx ht
    refine (testBit_img _ _ t).2 ⟨t, by rw [starTo_length, ha.len]; exact htn, ht, ?_⟩
    rw [natAt_star a _ t (by rw [ha.len]; exact htn)]
    exact sub_clo a _ t (by rw [testBit_pow2]; simp)
theorem star_then {n : Nat} {a : List Int} (ha : Rel n a) (hn : n ≤ 5) :
    thenTo (starTo a a.length) (starTo a a.length) (starTo a a.length).length = starTo a a.length := by
  have h1 := ha.starTo.thenTo ha.starTo
  refine ext_natAt _ _ h1.sets ha.starTo.sets (by rw [h1.len, ha.starTo.len]) fun j hj => ?_
  rw [h1.len] at hj
  rw [natAt_then _ _ _ j (by rw [ha.starTo.len]; exact hj), natAt_star a _ j (by rw [ha.len]; exact hj)]
  exact img_star ha (clo_lt ha.lt' (pow2_lt_two hj)) (clo_img ha hn (pow2_lt_two hj))
theorem star_star {n : Nat} {a : List Int} (ha : Rel n a) (hn : n ≤ 5) : starTo (starTo a a.length) (starTo a a.length).length = starTo a a.length := by
  have h1 := ha.starTo.starTo
  refine ext_natAt _ _ h1.sets ha.starTo.sets (by rw [h1.len, ha.starTo.len]) fun j hj => ?_
  rw [h1.len] at hj
  have hjl : j < a.length := by rw [ha.len]; exact hj
  rw [natAt_star _ _ j (by rw [ha.starTo.len]; exact hj), natAt_star a _ j hjl]
  have hcl := clo_lt ha.lt' (pow2_lt_two hj)
  apply Sub.antisymm
  · refine clo_least _ (sub_clo a _) ?_
    rw [img_star ha hcl (clo_img ha hn (pow2_lt_two hj))]
    exact Sub.refl _
  · have h2 : img (starTo a a.length) (pow2 j) = clo a (pow2 j) := by
      rw [img_pow2 _ j (by rw [starTo_length]; exact hjl), natAt_star a _ j hjl]
    have h3 : Sub (img (starTo a a.length) (pow2 j)) (img (starTo a a.length) (clo (starTo a a.length) (pow2 j))) := img_mono _ (sub_clo _ _)
    rw [h2] at h3
    exact h3.trans (clo_img ha.starTo hn (pow2_lt_two hj))
theorem star_above {n : Nat} {a : List Int} (ha : Rel n a) (hn : n ≤ 5) (i : Nat) (hi : i < n) : Sub (natAt a i) (natAt (starTo a a.length) i) := by
  have hil : i < a.length := by rw [ha.len]; exact hi
  rw [natAt_star a _ i hil, ← img_pow2 a i hil]
  exact (img_mono a (sub_clo a _)).trans (clo_img ha hn (pow2_lt_two hi))
theorem star_self {n : Nat} {a : List Int} (ha : Rel n a) (i : Nat) (hi : i < n) : (natAt (starTo a a.length) i).testBit i = true := by
  rw [natAt_star a _ i (by rw [ha.len]; exact hi)]
  exact sub_clo a _ i (by rw [testBit_pow2]; simp)

/-! ### atoms of states, the states of tests -/
/-- The atom of a state. -/
def atomI (p q : Int) (s : Nat) : Nat := (p.toNat.testBit s).toNat + 2 * (q.toNat.testBit s).toNat
theorem atomI_le (p q : Int) (s : Nat) : atomI p q s ≤ 3 := by
  unfold atomI
  cases p.toNat.testBit s <;> cases q.toNat.testBit s <;> decide
/-- The states, of the first k, in which a test holds. -/
def tsTo (p q : Int) (t : Nat) : Nat → Nat
  | 0 => 0
  | k + 1 => tsTo p q t k + if t.testBit (atomI p q k) then pow2 k else 0
theorem tsTo_zero (p q : Int) (t : Nat) : tsTo p q t 0 = 0 := rfl
theorem tsTo_succ (p q : Int) (t k : Nat) : tsTo p q t (k + 1) = tsTo p q t k + if t.testBit (atomI p q k) then pow2 k else 0 := rfl
theorem tsTo_lt (p q : Int) (t : Nat) : ∀ k, tsTo p q t k < 2 ^ k
  | 0 => by simp [tsTo]
  | k + 1 => by
    have := tsTo_lt p q t k
    rw [tsTo_succ, Nat.pow_succ]
    unfold pow2
    split <;> omega
theorem tsTo_or (p q : Int) (t k : Nat) (h : t.testBit (atomI p q k) = true) : orN (tsTo p q t k) (pow2 k) = tsTo p q t (k + 1) := by
  have := Nat.two_pow_add_eq_or_of_lt (tsTo_lt p q t k) 1
  rw [Nat.mul_one] at this
  rw [tsTo_succ, if_pos h, orN, pow2, Nat.or_comm, ← this, Nat.add_comm]
theorem testBit_tsTo (p q : Int) (t s : Nat) : ∀ k, (tsTo p q t k).testBit s = true ↔ s < k ∧ t.testBit (atomI p q s) = true
  | 0 => by simp [tsTo]
  | k + 1 => by
    cases hb : t.testBit (atomI p q k)
    · rw [tsTo_succ, hb]
      simp only [Bool.false_eq_true, if_false, Nat.add_zero]
      rw [testBit_tsTo p q t s k]
      constructor
      · rintro ⟨h1, h2⟩; exact ⟨by omega, h2⟩
      · rintro ⟨h1, h2⟩
        by_cases hsj : s = k
        · subst hsj; rw [hb] at h2; cases h2
        · exact ⟨by omega, h2⟩
    · rw [← tsTo_or p q t k hb, testBit_orN, Bool.or_eq_true, testBit_tsTo p q t s k, testBit_pow2, decide_eq_true_eq]
      constructor
      · rintro (⟨h1, h2⟩ | rfl)
        · exact ⟨by omega, h2⟩
        · exact ⟨by omega, hb⟩
      · rintro ⟨h1, h2⟩
        by_cases hsj : s = k
        · exact .inr hsj.symm
        · exact .inl ⟨by omega, h2⟩
/-- Just one state. -/
def oneN (x : Nat) : Bool := decide (x ≠ 0) && decide (andN x (x - 1) = 0)

end Go.Kt
/- Contracts: the reference's ModelValid; atoms of states and the states of tests. -/
namespace Go.Proofs.YtlaamecfknkmlaaGreat
set_option linter.unusedVariables false
open Go.RowKit Go.Kt

theorem mvB_not (st p q : Int) (ll : List (List Int)) (k : Nat) (hk : k < ll.length) (h : rvB st (rowI ll k) = false) : mvB st p q ll = false := by
  simp only [mvB, decide_eq_false_iff_not]
  rintro ⟨_, _, _, _, _, d⟩
  rw [d _ (rowI_mem ll k hk)] at h
  cases h
theorem mvB_all (st p q : Int) (ll : List (List Int)) (h : ∀ j, j < ll.length → rvB st (rowI ll j) = true) :
    mvB st p q ll = (inB st 1 5 && (inB p 0 (2 ^ st.toNat - 1) && (inB q 0 (2 ^ st.toNat - 1) && ((ll.length : Int) == 3)))) := by
  rw [Bool.eq_iff_iff]
  simp only [mvB, inB, decide_eq_true_eq, Bool.and_eq_true, beq_iff_eq]
  constructor
  · rintro ⟨a, b, c, d, e, _⟩; exact ⟨⟨a, b⟩, ⟨c.1, by omega⟩, ⟨d.1, by omega⟩, by omega⟩
  · rintro ⟨⟨a, b⟩, c, d, e⟩
    refine ⟨a, b, ⟨c.1, by omega⟩, ⟨d.1, by omega⟩, by omega, fun r hr => ?_⟩
    obtain ⟨j, hj, rfl⟩ := List.getElem_of_mem hr
    have := h j hj
    rwa [rowI_getElem ll j hj] at this

theorem sModelValid_c (st p q : Int) (a : Option Addr) (cap : Nat) (ll : List (List Int)) (w : World) (hr : RowsAt w a ll) (hlen : ll.length ≤ 4194304) (hm : ∀ i, i < ll.length → (rowI ll i).length ≤ 4194304) :
    Calls Tryz.prog 82 #[modelV st p q a ll.length cap] w fun e w' => e = .returned (.bool (mvB st p q ll)) ∧ Ext w w' := by
  have HR := Lib.hid hr
  obtain ⟨b1, o1, p1, q1⟩ := hr
  have P1 := Lib.hid p1
  have Q1 := Lib.hid q1
  have HM := Lib.hid hm
  clear p1 q1 hm
  go_enter Tryz.func82, Tryz.ntmps82
  go_wp2
  go_loopw [3] (fun i wr => Hid (∃ k : Nat, k ≤ ll.length ∧ i = .int .i64 k ∧ (∀ j, j < k → rvB st (rowI ll j) = true) ∧ ∃ m, wr = (w.alloc (.cells #[.int .i64 st, .int .i64 p, .int .i64 q, .slice a ll.length cap] 37)).drewN m)) (fun i _ => ll.length - (intOf i).toNat)
  case atStart => exact Lib.hid ⟨0, Nat.zero_le _, rfl, fun j hj => absurd hj (Nat.not_lt_zero _), 0, rfl⟩
  case round =>
    obtain ⟨k, hk, rfl, hno, m, rfl⟩ := hrel.out
    have HN := Lib.hid hno
    clear hrel hno
    by_cases hlt : k < ll.length
    · obtain ⟨rfl, hb⟩ := P1.out (by omega)
      obtain ⟨ai, ci, hc, hi⟩ := Q1.out k hlt
      have hml := HM.out k hlt
      have hi2 := hi.ext (Ext.alloc (Ext.refl w) (.cells #[.int .i64 st, .int .i64 p, .int .i64 q, .slice (some ⟨b1, o1, none⟩) ll.length cap] 37))
      have hne : ¬ b1 = w.heap.size := by omega
      clear hi
      cases hv : rvB st (rowI ll k)
      all_goals
        go_wp2
        go_quiet ((go_at_call 139; exact quiet_drawn_add (sRowsValid_c _ _ _ _ _ (hi2.ext ((Ext.refl _).drewN _)) (by omega))))
        go_wp2
      · go_ret
        exact ⟨by rw [mvB_not st p q ll k hlt hv]; rfl, by (repeat (first | exact Ext.refl _ | assumption | refine Ext.alloc ?_ _ | refine Ext.drewN ?_ _ | refine Ext.drew ?_))⟩
      · go_roundw
        case rel => exact Lib.hid ⟨k + 1, by omega, by go_num, upto_succ HN.out hv, by first | exact ⟨_, rfl⟩ | exact drawn2 _ _ _⟩
        case measure => simp [intOf]; omega
    · obtain rfl : k = ll.length := by omega
      have HA := Lib.hid (mvB_all st p q ll HN.out)
      by_cases hv : 1 ≤ st ∧ st ≤ 5
      · obtain ⟨s, rfl⟩ := Int.eq_ofNat_of_zero_le (show 0 ≤ st by omega)
        have hpl := pow_le_32 s (by omega)
        have hpp := pow_pos' s
        have h1 : inB (s : Int) 1 5 = true := by simp [inB]; omega
        obtain ⟨hv1, hv2⟩ := hv
        cases h2 : inB p 0 (2 ^ s - 1)
        · go_wp2_with (go_at_call 61; refine (l1In_c _ _ _ _).mono ?_; rintro e w' ⟨rfl, rfl⟩)
          go_ret
          exact ⟨by rw [HA.out, h1, Int.toNat_natCast, h2]; rfl, by (repeat (first | exact Ext.refl _ | assumption | refine Ext.alloc ?_ _ | refine Ext.drewN ?_ _ | refine Ext.drew ?_))⟩
        · cases h3 : inB q 0 (2 ^ s - 1)
          · go_wp2_with (go_at_call 61; refine (l1In_c _ _ _ _).mono ?_; rintro e w' ⟨rfl, rfl⟩)
            go_ret
            exact ⟨by rw [HA.out, h1, Int.toNat_natCast, h2, h3]; rfl, by (repeat (first | exact Ext.refl _ | assumption | refine Ext.alloc ?_ _ | refine Ext.drewN ?_ _ | refine Ext.drew ?_))⟩
          · go_wp2_with (go_at_call 61; refine (l1In_c _ _ _ _).mono ?_; rintro e w' ⟨rfl, rfl⟩)
            go_ret
            exact ⟨by rw [HA.out, h1, Int.toNat_natCast, h2, h3]; rfl, by (repeat (first | exact Ext.refl _ | assumption | refine Ext.alloc ?_ _ | refine Ext.drewN ?_ _ | refine Ext.drew ?_))⟩
      · have h1 : inB st 1 5 = false := by simp [inB]; omega
        have hv3 : st < 0 ∨ st = 0 ∨ 6 ≤ st := by omega
        clear hv
        rcases hv3 with hv3 | rfl | hv3
        all_goals
          go_wp2_with (go_at_call 61; refine (l1In_c _ _ _ _).mono ?_; rintro e w' ⟨rfl, rfl⟩)
          go_ret
          exact ⟨by rw [HA.out, h1]; rfl, by (repeat (first | exact Ext.refl _ | assumption | refine Ext.alloc ?_ _ | refine Ext.drewN ?_ _ | refine Ext.drew ?_))⟩

theorem atom_c (st : Int) (p q : Nat) (av : Value) (s : Nat) (w : World) (hp : p < 4294967296) (hq : q < 4294967296) (hs : s < 60) :
    Calls Tryz.prog 149 #[.agg #[.int .i64 st, .int .i64 p, .int .i64 q, av], .int .i64 s] w fun e w' => e = .returned (.int .i64 (atomI p q s : Nat)) ∧ Ext w w' := by
  have hbp := i64_bit p s (by omega)
  have hbq := i64_bit q s (by omega)
  cases h1 : p.testBit s
  all_goals cases h2 : q.testBit s
  all_goals
    have hr : atomI p q s = (p.testBit s).toNat + 2 * (q.testBit s).toNat := rfl
    have HR := Lib.hid hr
    rw [h1] at hbp
    rw [h2] at hbq
    simp only [Bool.toNat_false, Bool.toNat_true] at hbp hbq
    clear hr
    go_enter Tryz.func149, Tryz.ntmps149
    go_wp2
    go_quiet (fail)
    go_wp2
    go_ret
    exact ⟨by rw [HR.out, h1, h2]; rfl, by (repeat (first | exact Ext.refl _ | assumption | refine Ext.alloc ?_ _ | refine Ext.drewN ?_ _ | refine Ext.drew ?_))⟩


theorem mvB_bounds {st p q : Int} {ll : List (List Int)} (h : mvB st p q ll = true) :
    ∃ (s P Q : Nat), st = s ∧ p = P ∧ q = Q ∧ 1 ≤ s ∧ s ≤ 5 ∧ P < 2 ^ s ∧ Q < 2 ^ s ∧ P < 4294967296 ∧ Q < 4294967296 ∧ ll.length = 3 ∧ ∀ i, i < 3 → rvB s (rowI ll i) = true := by
  simp only [mvB, decide_eq_true_eq] at h
  obtain ⟨h1, h2, ⟨h3, h4⟩, ⟨h5, h6⟩, h7, h8⟩ := h
  obtain ⟨s, rfl⟩ := Int.eq_ofNat_of_zero_le (show 0 ≤ st by omega)
  obtain ⟨P, rfl⟩ := Int.eq_ofNat_of_zero_le h3
  obtain ⟨Q, rfl⟩ := Int.eq_ofNat_of_zero_le h5
  rw [Int.toNat_natCast] at h4 h6
  have h4' : P < 2 ^ s := by exact_mod_cast h4
  have h6' : Q < 2 ^ s := by exact_mod_cast h6
  have hl : (2 : Nat) ^ s ≤ 2 ^ 5 := Nat.pow_le_pow_right (by decide) (by omega)
  exact ⟨s, P, Q, rfl, rfl, rfl, by omega, by omega, h4', h6', by omega, by omega, h7, fun i hi => h8 _ (rowI_mem ll i (by omega))⟩

/-- AtomOf, TestStates. -/
def atomF (st p q : Int) (ll : List (List Int)) (s : Int) : Int := if mvB st p q ll && inB s 0 (st - 1) then ((atomI p q s.toNat : Nat) : Int) else -1
def testF (st p q : Int) (ll : List (List Int)) (t : Int) : Int := if mvB st p q ll && inB t 0 15 then ((tsTo p q t.toNat st.toNat : Nat) : Int) else -1


theorem sAtomOf_c (st p q : Int) (a : Option Addr) (cap : Nat) (ll : List (List Int)) (s : Int) (w : World) (hr : RowsAt w a ll) (hlen : ll.length ≤ 4194304) (hm : ∀ i, i < ll.length → (rowI ll i).length ≤ 4194304) :
    Calls Tryz.prog 166 #[modelV st p q a ll.length cap, .int .i64 s] w fun e w' => e = .returned (.int .i64 (atomF st p q ll s)) ∧ Ext w w' := by
  have HR := Lib.hid hr
  have HM := Lib.hid hm
  clear hr hm
  cases hv : mvB st p q ll
  · have HF : Hid (atomF st p q ll s = -1) := by unfold Hid atomF; rw [hv]; rfl
    go_enter Tryz.func166, Tryz.ntmps166
    go_wp2_with fail
    refine (sModelValid_c st p q a cap ll _ (HR.out.ext (by (repeat (first | exact Ext.refl _ | assumption | refine Ext.alloc ?_ _ | refine Ext.drewN ?_ _ | refine Ext.drew ?_)))) hlen HM.out).mono ?_
    rintro e w1 ⟨rfl, hx⟩
    have hx2 := Ext.trans (by (repeat (first | exact Ext.refl _ | assumption | refine Ext.alloc ?_ _ | refine Ext.drewN ?_ _ | refine Ext.drew ?_)) : Ext w _) hx
    clear hx
    go_wp2
    go_ret
    exact ⟨by rw [HF.out]; rfl, hx2⟩
  · obtain ⟨sn, P, Q, rfl, rfl, rfl, b1, b2, b3, b4, b5, b6, -, -⟩ := mvB_bounds hv
    cases hs : inB s 0 ((sn : Int) - 1)
    · have HF : Hid (atomF sn P Q ll s = -1) := by unfold Hid atomF; rw [hv, hs]; rfl
      go_enter Tryz.func166, Tryz.ntmps166
      go_wp2_with fail
      refine (sModelValid_c _ _ _ a cap ll _ (HR.out.ext (by (repeat (first | exact Ext.refl _ | assumption | refine Ext.alloc ?_ _ | refine Ext.drewN ?_ _ | refine Ext.drew ?_)))) hlen HM.out).mono ?_
      rintro e w1 ⟨rfl, hx⟩
      have hx2 := Ext.trans (by (repeat (first | exact Ext.refl _ | assumption | refine Ext.alloc ?_ _ | refine Ext.drewN ?_ _ | refine Ext.drew ?_)) : Ext w _) hx
      obtain ⟨hc, hf⟩ := hx.cells
      clear hx
      go_wp2_with (go_at_call 61; refine (l1In_c _ _ _ _).mono ?_; rintro e w' ⟨rfl, rfl⟩)
      go_ret
      exact ⟨by rw [HF.out]; rfl, hx2⟩
    · have hsb : 0 ≤ s ∧ s ≤ (sn : Int) - 1 := by simpa [inB] using hs
      obtain ⟨S, rfl⟩ := Int.eq_ofNat_of_zero_le hsb.1
      have HF : Hid (atomF sn P Q ll S = ((atomI P Q S : Nat) : Int)) := by unfold Hid atomF; rw [hv, hs, Int.toNat_natCast]; rfl
      have hat : Hid (atomI P Q S = (P.testBit S).toNat + 2 * (Q.testBit S).toNat) := rfl
      cases hP : P.testBit S
      all_goals cases hQ : Q.testBit S
      all_goals
        go_enter Tryz.func166, Tryz.ntmps166
        go_wp2_with fail
        refine (sModelValid_c _ _ _ a cap ll _ (HR.out.ext (by (repeat (first | exact Ext.refl _ | assumption | refine Ext.alloc ?_ _ | refine Ext.drewN ?_ _ | refine Ext.drew ?_)))) hlen HM.out).mono ?_
        rintro e w1 ⟨rfl, hx⟩
        have hx2 := Ext.trans (by (repeat (first | exact Ext.refl _ | assumption | refine Ext.alloc ?_ _ | refine Ext.drewN ?_ _ | refine Ext.drew ?_)) : Ext w _) hx
        obtain ⟨hc, hf⟩ := hx.cells
        clear hx
        go_wp2_with (go_at_call 61; refine (l1In_c _ _ _ _).mono ?_; rintro e w' ⟨rfl, rfl⟩)
        go_quiet ((go_at_call 107; exact quiet_same (l1Bit_c _ _ _ (by omega) (by omega))))
        go_wp2
        go_ret
        exact ⟨by rw [HF.out, hat.out, hP, hQ]; rfl, by (repeat (first | exact Ext.refl _ | assumption | refine Ext.alloc ?_ _ | refine Ext.drewN ?_ _ | refine Ext.drew ?_))⟩

theorem iTestValid_c (t : Int) (w : World) :
    Calls Tryz.prog 93 #[.int .i64 t] w fun e w' => e = .returned (.bool (inB t 0 15)) ∧ w = w' := by
  by_cases h1 : 0 ≤ t
  all_goals
    go_enter Tryz.func93, Tryz.ntmps93
    go_wp2
    go_ret
    exact ⟨by simp [inB, h1]; try omega, rfl⟩
theorem sTestValid_c (t : Int) (w : World) :
    Calls Tryz.prog 147 #[.int .i64 t] w fun e w' => e = .returned (.bool (inB t 0 15)) ∧ w = w' := by
  go_enter Tryz.func147, Tryz.ntmps147
  go_wp2_with (go_at_call 61; refine (l1In_c _ _ _ _).mono ?_; rintro e w' ⟨rfl, rfl⟩)
  go_ret
  exact ⟨rfl, rfl⟩
/-- TestNot. -/
def notF (t : Int) : Int := if inB t 0 15 then 15 - t else -1
theorem andNot15 (t : Nat) (h : t ≤ 15) : bits .andNot .i64 15 (t : Int) = 15 - (t : Int) := by
  have : t = 0 ∨ t = 1 ∨ t = 2 ∨ t = 3 ∨ t = 4 ∨ t = 5 ∨ t = 6 ∨ t = 7 ∨ t = 8 ∨ t = 9 ∨ t = 10 ∨ t = 11 ∨ t = 12 ∨ t = 13 ∨ t = 14 ∨ t = 15 := by omega
  rcases this with rfl | rfl | rfl | rfl | rfl | rfl | rfl | rfl | rfl | rfl | rfl | rfl | rfl | rfl | rfl | rfl <;> rfl
theorem iTestNot_c (t : Int) (w : World) :
    Calls Tryz.prog 64 #[.int .i64 t] w fun e w' => e = .returned (.int .i64 (notF t)) ∧ w = w' := by
  cases h : inB t 0 15
  · have HF : Hid (notF t = -1) := by unfold Hid notF; rw [h]; rfl
    go_enter Tryz.func64, Tryz.ntmps64
    go_wp2_with (go_at_call 93; refine (iTestValid_c _ _).mono ?_; rintro e w' ⟨rfl, rfl⟩)
    go_ret
    exact ⟨by rw [HF.out]; rfl, rfl⟩
  · have hb : 0 ≤ t ∧ t ≤ 15 := by simpa [inB] using h
    obtain ⟨T, rfl⟩ := Int.eq_ofNat_of_zero_le hb.1
    have HF : Hid (notF T = 15 - (T : Int)) := by unfold Hid notF; rw [h]; rfl
    have ha := andNot15 T (by omega)
    go_enter Tryz.func64, Tryz.ntmps64
    go_wp2_with (go_at_call 93; refine (iTestValid_c _ _).mono ?_; rintro e w' ⟨rfl, rfl⟩)
    go_ret
    exact ⟨by rw [HF.out]; rfl, rfl⟩

theorem testStates_c (sn p q : Nat) (av : Value) (t : Nat) (w : World) (hs : sn ≤ 5) (hp : p < 4294967296) (hq : q < 4294967296) (ht : t < 65536) :
    Calls Tryz.prog 94 #[.agg #[.int .i64 sn, .int .i64 p, .int .i64 q, av], .int .i64 t] w fun e w' => e = .returned (.int .i64 (tsTo p q t sn : Nat)) ∧ Ext w w' := by
  go_enter Tryz.func94, Tryz.ntmps94
  go_wp2
  go_loopw [5, 9] (fun o i wr => Hid (∃ k : Nat, k ≤ sn ∧ i = .int .i64 k ∧ o = .int .i64 (tsTo p q t k : Nat) ∧ Ext (w.alloc (.cells #[.int .i64 sn, .int .i64 p, .int .i64 q, av] 37)) wr)) (fun _ i _ => sn - (intOf i).toNat)
  case atStart => exact Lib.hid ⟨0, Nat.zero_le _, rfl, rfl, Ext.refl _⟩
  case round =>
    obtain ⟨k, hk, rfl, rfl, hx⟩ := hrel.out
    clear hrel
    by_cases hlt : k < sn
    · obtain ⟨hc, hf⟩ := hx.cells
      have hat := atomI_le p q k
      have hpc := pow2_cast k
      have hp1 : pow2 k ≤ 16 := pow2_le k 4 (by omega)
      have hl := tsTo_lt p q t k
      have hl2 : tsTo p q t k < 32 := Nat.lt_of_lt_of_le hl (Nat.pow_le_pow_right (by decide) (show k ≤ 5 by omega))
      have ho := i64_orN (tsTo p q t k) (pow2 k) (by omega) (by omega)
      have HO := Lib.hid (tsTo_or p q t k)
      have HS := Lib.hid (tsTo_succ p q t k)
      clear hl
      cases hb : t.testBit (atomI p q k)
      all_goals
        go_wp2_with fail
        refine (atom_c _ _ _ _ _ _ hp hq (by omega)).mono ?_
        rintro e w2 ⟨rfl, hx2⟩
        have hx3 := hx.trans hx2
        clear hx2 hc hf
        go_wp2_with (go_at_call 74; refine (holds_c _ _ _ (by omega) (by omega)).mono ?_; rintro e w' ⟨rfl, rfl⟩)
        go_roundw
      case rel => exact Lib.hid ⟨k + 1, by omega, by go_num, by rw [HS.out, hb]; rfl, hx3⟩
      case measure => simp [intOf]; omega
      case rel => exact Lib.hid ⟨k + 1, by omega, by go_num, by rw [← HO.out hb], hx3⟩
      case measure => simp [intOf]; omega
    · obtain rfl : k = sn := by omega
      go_wp2
      go_ret
      exact ⟨rfl, Ext.trans (by (repeat (first | exact Ext.refl _ | assumption | refine Ext.alloc ?_ _ | refine Ext.drewN ?_ _ | refine Ext.drew ?_))) hx⟩

theorem iTestStates_c (st p q : Int) (a : Option Addr) (cap : Nat) (ll : List (List Int)) (t : Int) (w : World) (hr : RowsAt w a ll) (hlen : ll.length ≤ 4194304) (hm : ∀ i, i < ll.length → (rowI ll i).length ≤ 4194304) :
    Calls Tryz.prog 24 #[modelV st p q a ll.length cap, .int .i64 t] w fun e w' => e = .returned (.int .i64 (testF st p q ll t)) ∧ Ext w w' := by
  have HR := Lib.hid hr
  have HM := Lib.hid hm
  clear hr hm
  cases hv : mvB st p q ll
  · have HF : Hid (testF st p q ll t = -1) := by unfold Hid testF; rw [hv]; rfl
    go_enter Tryz.func24, Tryz.ntmps24
    go_wp2_with fail
    refine (iModelValid_c st p q a cap ll _ (HR.out.ext (by (repeat (first | exact Ext.refl _ | assumption | refine Ext.alloc ?_ _ | refine Ext.drewN ?_ _ | refine Ext.drew ?_)))) hlen HM.out).mono ?_
    rintro e w1 ⟨rfl, hx⟩
    have hx2 := Ext.trans (by (repeat (first | exact Ext.refl _ | assumption | refine Ext.alloc ?_ _ | refine Ext.drewN ?_ _ | refine Ext.drew ?_)) : Ext w _) hx
    clear hx
    go_wp2
    go_ret
    exact ⟨by rw [HF.out]; rfl, hx2⟩
  · cases hs : inB t 0 15
    · have HF : Hid (testF st p q ll t = -1) := by unfold Hid testF; rw [hv, hs]; rfl
      go_enter Tryz.func24, Tryz.ntmps24
      go_wp2_with fail
      refine (iModelValid_c st p q a cap ll _ (HR.out.ext (by (repeat (first | exact Ext.refl _ | assumption | refine Ext.alloc ?_ _ | refine Ext.drewN ?_ _ | refine Ext.drew ?_)))) hlen HM.out).mono ?_
      rintro e w1 ⟨rfl, hx⟩
      have hx2 := Ext.trans (by (repeat (first | exact Ext.refl _ | assumption | refine Ext.alloc ?_ _ | refine Ext.drewN ?_ _ | refine Ext.drew ?_)) : Ext w _) hx
      clear hx
      go_wp2_with (go_at_call 93; refine (iTestValid_c _ _).mono ?_; rintro e w' ⟨rfl, rfl⟩)
      go_ret
      exact ⟨by rw [HF.out]; rfl, hx2⟩
    · obtain ⟨sn, P, Q, rfl, rfl, rfl, b1, b2, b3, b4, b5, b6, -, -⟩ := mvB_bounds hv
      have hsb : 0 ≤ t ∧ t ≤ 15 := by simpa [inB] using hs
      obtain ⟨T, rfl⟩ := Int.eq_ofNat_of_zero_le hsb.1
      have HF : Hid (testF sn P Q ll T = ((tsTo P Q T sn : Nat) : Int)) := by unfold Hid testF; rw [hv, hs, Int.toNat_natCast, Int.toNat_natCast]; rfl
      go_enter Tryz.func24, Tryz.ntmps24
      go_wp2_with fail
      refine (iModelValid_c _ _ _ a cap ll _ (HR.out.ext (by (repeat (first | exact Ext.refl _ | assumption | refine Ext.alloc ?_ _ | refine Ext.drewN ?_ _ | refine Ext.drew ?_)))) hlen HM.out).mono ?_
      rintro e w1 ⟨rfl, hx⟩
      have hx2 := Ext.trans (by (repeat (first | exact Ext.refl _ | assumption | refine Ext.alloc ?_ _ | refine Ext.drewN ?_ _ | refine Ext.drew ?_)) : Ext w _) hx
      obtain ⟨hc, hf⟩ := hx.cells
      clear hx
      go_wp2_with (go_at_call 93; refine (iTestValid_c _ _).mono ?_; rintro e w' ⟨rfl, rfl⟩)
      refine (testStates_c _ _ _ _ _ _ b2 b5 b6 (by omega)).mono ?_
      rintro e w3 ⟨rfl, hx⟩
      have hx4 := hx2.trans hx
      clear hx2 hx
      go_wp2
      go_ret
      exact ⟨by rw [HF.out]; rfl, hx4⟩

theorem sTestStates_c (st p q : Int) (a : Option Addr) (cap : Nat) (ll : List (List Int)) (t : Int) (w : World) (hr : RowsAt w a ll) (hlen : ll.length ≤ 4194304) (hm : ∀ i, i < ll.length → (rowI ll i).length ≤ 4194304) :
    Calls Tryz.prog 141 #[modelV st p q a ll.length cap, .int .i64 t] w fun e w' => e = .returned (.int .i64 (testF st p q ll t)) ∧ Ext w w' := by
  have HR := Lib.hid hr
  have HM := Lib.hid hm
  clear hr hm
  cases hv : mvB st p q ll
  · have HF : Hid (testF st p q ll t = -1) := by unfold Hid testF; rw [hv]; rfl
    go_enter Tryz.func141, Tryz.ntmps141
    go_wp2_with fail
    refine (sModelValid_c st p q a cap ll _ (HR.out.ext (by (repeat (first | exact Ext.refl _ | assumption | refine Ext.alloc ?_ _ | refine Ext.drewN ?_ _ | refine Ext.drew ?_)))) hlen HM.out).mono ?_
    rintro e w1 ⟨rfl, hx⟩
    have hx2 := Ext.trans (by (repeat (first | exact Ext.refl _ | assumption | refine Ext.alloc ?_ _ | refine Ext.drewN ?_ _ | refine Ext.drew ?_)) : Ext w _) hx
    clear hx
    go_wp2
    go_ret
    exact ⟨by rw [HF.out]; rfl, hx2⟩
  · cases hs : inB t 0 15
    · have HF : Hid (testF st p q ll t = -1) := by unfold Hid testF; rw [hv, hs]; rfl
      go_enter Tryz.func141, Tryz.ntmps141
      go_wp2_with fail
      refine (sModelValid_c st p q a cap ll _ (HR.out.ext (by (repeat (first | exact Ext.refl _ | assumption | refine Ext.alloc ?_ _ | refine Ext.drewN ?_ _ | refine Ext.drew ?_)))) hlen HM.out).mono ?_
      rintro e w1 ⟨rfl, hx⟩
      have hx2 := Ext.trans (by (repeat (first | exact Ext.refl _ | assumption | refine Ext.alloc ?_ _ | refine Ext.drewN ?_ _ | refine Ext.drew ?_)) : Ext w _) hx
      clear hx
      go_wp2_with (go_at_call 147; refine (sTestValid_c _ _).mono ?_; rintro e w' ⟨rfl, rfl⟩)
      go_ret
      exact ⟨by rw [HF.out]; rfl, hx2⟩
    · have HVV := Lib.hid hv
      obtain ⟨sn, P, Q, rfl, rfl, rfl, b1, b2, b3, b4, b5, b6, -, -⟩ := mvB_bounds hv
      have hsb : 0 ≤ t ∧ t ≤ 15 := by simpa [inB] using hs
      obtain ⟨T, rfl⟩ := Int.eq_ofNat_of_zero_le hsb.1
      have HF : Hid (testF sn P Q ll T = ((tsTo P Q T sn : Nat) : Int)) := by unfold Hid testF; rw [hv, hs, Int.toNat_natCast, Int.toNat_natCast]; rfl
      go_enter Tryz.func141, Tryz.ntmps141
      go_wp2_with fail
      refine (sModelValid_c _ _ _ a cap ll _ (HR.out.ext (by (repeat (first | exact Ext.refl _ | assumption | refine Ext.alloc ?_ _ | refine Ext.drewN ?_ _ | refine Ext.drew ?_)))) hlen HM.out).mono ?_
      rintro e w1 ⟨rfl, hx⟩
      go_wp2_with (go_at_call 147; refine (sTestValid_c _ _).mono ?_; rintro e w' ⟨rfl, rfl⟩)
      go_loopw [5, 6] (fun o i wr => Hid (∃ k : Nat, k ≤ sn ∧ i = .int .i64 k ∧ o = .int .i64 (tsTo P Q T k : Nat) ∧ Ext (w.alloc (.cells #[.int .i64 sn, .int .i64 P, .int .i64 Q, .slice a ll.length cap] 37)) wr)) (fun _ i _ => sn - (intOf i).toNat)
      case atStart => exact Lib.hid ⟨0, Nat.zero_le _, rfl, rfl, hx⟩
      case round =>
        obtain ⟨k, hk, rfl, rfl, hx2⟩ := hrel.out
        clear hrel hx
        obtain ⟨hc, hf⟩ := hx2.cells
        by_cases hlt : k < sn
        · have hat := atomI_le P Q k
          have hpc := pow2_cast k
          have hp1 : pow2 k ≤ 16 := pow2_le k 4 (by omega)
          have hl := tsTo_lt P Q T k
          have hl2 : tsTo P Q T k < 32 := Nat.lt_of_lt_of_le hl (Nat.pow_le_pow_right (by decide) (show k ≤ 5 by omega))
          have HS := Lib.hid (tsTo_succ P Q T k)
          have hin : inB (k : Int) 0 ((sn : Int) - 1) = true := by simp [inB]; omega
          have haf : atomF sn P Q ll k = ((atomI P Q k : Nat) : Int) := by unfold atomF; rw [HVV.out, hin, Int.toNat_natCast]; rfl
          clear hl
          cases hb : T.testBit (atomI P Q k)
          all_goals
            go_wp2_with fail
            refine (sAtomOf_c _ _ _ a cap ll _ _ (HR.out.ext (Ext.trans (by (repeat (first | exact Ext.refl _ | assumption | refine Ext.alloc ?_ _ | refine Ext.drewN ?_ _ | refine Ext.drew ?_))) hx2)) hlen HM.out).mono ?_
            rintro e w2 ⟨rfl, hx3⟩
            have hx4 := hx2.trans hx3
            clear hx3 hc hf
            go_wp2_with (go_at_call 107; refine (l1Bit_c _ _ _ (by omega) (by omega)).mono ?_; rintro e w' ⟨rfl, rfl⟩)
            go_roundw
          case rel => exact Lib.hid ⟨k + 1, by omega, by go_num, by rw [HS.out, hb]; rfl, hx4⟩
          case measure => simp [intOf]; omega
          case rel => exact Lib.hid ⟨k + 1, by omega, by go_num, by rw [HS.out, hb]; go_num, hx4⟩
          case measure => simp [intOf]; omega
        · obtain rfl : k = sn := by omega
          go_wp2
          go_ret
          exact ⟨by rw [HF.out]; rfl, Ext.trans (by (repeat (first | exact Ext.refl _ | assumption | refine Ext.alloc ?_ _ | refine Ext.drewN ?_ _ | refine Ext.drew ?_))) hx2⟩
end Go.Proofs.YtlaamecfknkmlaaGreat
