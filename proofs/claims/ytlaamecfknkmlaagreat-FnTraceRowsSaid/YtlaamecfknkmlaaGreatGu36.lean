/- Merged texts: contracts and plain lemmas (Mp, Sm, Yc). -/
import Derived.Test.YtlaamecfknkmlaaGreatGu8
import Derived.Test.YtlaamecfknkmlaaGreatGu3
import Derived.Test.YtlaamecfknkmlaaGreatGu24
/- Plain law: the rows of an expression in a model; the states from which it leads only to a set. No program in sight. -/
namespace Go.Kt
set_option linter.unusedVariables false

/-- The row of a state at a test. -/
def testRow (p q : Int) (t st k : Nat) : Nat := if (tsTo p q t st).testBit k then pow2 k else 0
def testL (p q : Int) (t st k : Nat) : List Int := (List.range k).map fun i => ((testRow p q t st i : Nat) : Int)
theorem testL_length (p q : Int) (t st k : Nat) : (testL p q t st k).length = k := by simp [testL]
theorem testL_get (p q : Int) (t st k i : Nat) (h : i < k) : nth (testL p q t st k) i = ((testRow p q t st i : Nat) : Int) := by
  rw [nth_getElem _ _ (by rw [testL_length]; exact h)]; simp [testL]
theorem testL_succ (p q : Int) (t st k : Nat) : testL p q t st (k + 1) = testL p q t st k ++ [((testRow p q t st k : Nat) : Int)] := by simp [testL, List.range_succ]
theorem testRow_lt (p q : Int) {t st k : Nat} (hk : k < st) : testRow p q t st k < 2 ^ st := by
  unfold testRow
  split
  · exact pow2_lt_two hk
  · exact Nat.two_pow_pos st
theorem Rel.test (p q : Int) {t st : Nat} (h : st ≤ 31) : Rel st (testL p q t st st) := by
  refine ⟨testL_length _ _ _ _ _, h, ?_, ?_⟩
  · exact sets_of_cast (fun i => testRow p q t st i) (fun i hi => testL_get p q t st st i (by rw [testL_length] at hi; exact hi)) fun i hi => two_pow_31 h (testRow_lt p q (by rw [testL_length] at hi; exact hi))
  · intro i hi
    rw [natAt_cast (testL_get p q t st st i hi)]
    exact testRow_lt p q hi
/-- The rows of an expression. -/
def Kt.rows (p q : Int) (st : Nat) (ll : List (List Int)) : Kt → List Int
  | .leaf s => if s ≤ 15 then testL p q s.toNat st st else rowI ll (s.toNat - 16)
  | .star a => starTo (Kt.rows p q st ll a) (Kt.rows p q st ll a).length
  | .two s a b => if s = 20 then plusTo (Kt.rows p q st ll a) (Kt.rows p q st ll b) (Kt.rows p q st ll a).length else thenTo (Kt.rows p q st ll a) (Kt.rows p q st ll b) (Kt.rows p q st ll a).length
theorem Kt.rows_rel (p q : Int) (st : Nat) (ll : List (List Int)) (hst : st ≤ 31) (hll : ∀ i, i < 3 → Rel st (rowI ll i)) : ∀ t : Kt, t.Good → Rel st (t.rows p q st ll)
  | .leaf s, h => by
    have h : 0 ≤ s ∧ s ≤ 18 := h
    simp only [Kt.rows]
    split
    · exact Rel.test p q hst
    · exact hll _ (by omega)
  | .star a, h => (a.rows_rel p q st ll hst hll h).starTo
  | .two s a b, h => by
    simp only [Kt.rows]
    split
    · exact (a.rows_rel p q st ll hst hll h.2.1).plusTo (b.rows_rel p q st ll hst hll h.2.2)
    · exact (a.rows_rel p q st ll hst hll h.2.1).thenTo (b.rows_rel p q st ll hst hll h.2.2)

/-- The states, of the first k, whose row lies in a set. -/
def inTo (r : List Int) (x : Nat) : Nat → Nat
  | 0 => 0
  | k + 1 => inTo r x k + if andN (natAt r k) x = natAt r k then pow2 k else 0
theorem inTo_lt (r : List Int) (x : Nat) : ∀ k, inTo r x k < 2 ^ k
  | 0 => by simp [inTo]
  | k + 1 => by
    have := inTo_lt r x k
    simp only [inTo, Nat.pow_succ]
    unfold pow2
    split <;> omega
theorem inTo_or (r : List Int) (x k : Nat) (h : andN (natAt r k) x = natAt r k) : orN (inTo r x k) (pow2 k) = inTo r x (k + 1) := by
  have := Nat.two_pow_add_eq_or_of_lt (inTo_lt r x k) 1
  rw [Nat.mul_one] at this
  simp only [inTo]
  rw [if_pos h, orN, pow2, Nat.or_comm, ← this, Nat.add_comm]
/-- Cut down by f until nothing is lost. -/
def shr (f : Nat → Nat) : Nat → Nat → Nat
  | 0, s => s
  | n + 1, s => if andN s (f s) = s then s else shr f n (andN s (f s))
theorem shr_fix {f : Nat → Nat} {s : Nat} (h : andN s (f s) = s) : ∀ n, shr f n s = s
  | 0 => rfl
  | n + 1 => if_pos h
theorem andN_lt {s t : Nat} (h : andN s t ≠ s) : andN s t < s := Nat.lt_of_le_of_ne (andN_le s t) h
theorem shr_more (f : Nat → Nat) : ∀ (n s : Nat), s ≤ n → ∀ d, shr f (n + d) s = shr f n s
  | 0, s, hs, d => by
    obtain rfl : s = 0 := by omega
    exact shr_fix (by simp [andN]) _
  | n + 1, s, hs, d => by
    by_cases h : andN s (f s) = s
    · rw [shr_fix h, shr_fix h]
    · have hlt := andN_lt h
      rw [show n + 1 + d = (n + d) + 1 by omega]
      simp only [shr, if_neg h]
      exact shr_more f n _ (by omega) d
theorem shr_step {f : Nat → Nat} {n s : Nat} (hs : s ≤ n) (h : andN s (f s) ≠ s) : shr f n (andN s (f s)) = shr f n s := by
  have hlt := andN_lt h
  obtain ⟨m, rfl⟩ : ∃ m, n = m + 1 := ⟨n - 1, by omega⟩
  have : shr f (m + 1) s = shr f m (andN s (f s)) := if_neg h
  rw [this]
  exact shr_more f m _ (by omega) 1
theorem shr_le (f : Nat → Nat) : ∀ n s, shr f n s ≤ s
  | 0, s => Nat.le_refl _
  | n + 1, s => by
    simp only [shr]
    split
    · exact Nat.le_refl _
    · exact Nat.le_trans (shr_le f n _) (andN_le _ _)
/-- The states from which an expression leads only to a set. -/
def Kt.weak (p q : Int) (st : Nat) (ll : List (List Int)) : Kt → Nat → Nat
  | .leaf s, x => if s ≤ 15 then orN (2 ^ st - 1 - tsTo p q s.toNat st) x else inTo (rowI ll (s.toNat - 16)) x st
  | .star a, x => shr (Kt.weak p q st ll a) x x
  | .two s a b, x => if s = 20 then andN (Kt.weak p q st ll a x) (Kt.weak p q st ll b x) else Kt.weak p q st ll a (Kt.weak p q st ll b x)
theorem Kt.weak_lt (p q : Int) (st : Nat) (ll : List (List Int)) : ∀ (t : Kt) (x : Nat), x < 2 ^ st → t.weak p q st ll x < 2 ^ st
  | .leaf s, x, hx => by
    have := Nat.two_pow_pos st
    simp only [Kt.weak]
    split
    · exact orN_lt (by omega) hx
    · exact inTo_lt _ _ _
  | .star a, x, hx => Nat.lt_of_le_of_lt (shr_le _ _ _) hx
  | .two s a b, x, hx => by
    simp only [Kt.weak]
    split
    · exact Nat.lt_of_le_of_lt (andN_le _ _) (a.weak_lt p q st ll x hx)
    · exact a.weak_lt p q st ll _ (b.weak_lt p q st ll x hx)
end Go.Kt
/- Plain law: the rows of an expression, as a relation of states. No program in sight. -/
namespace Go.Kt
set_option linter.unusedVariables false

/-- Again and again. -/
inductive Rtc (R : Nat → Nat → Prop) : Nat → Nat → Prop
  | refl (i : Nat) : Rtc R i i
  | head {i k j : Nat} (h : R i k) (t : Rtc R k j) : Rtc R i j
theorem Rtc.trans {R : Nat → Nat → Prop} {i k j : Nat} (h : Rtc R i k) (t : Rtc R k j) : Rtc R i j := by
  induction h with
  | refl => exact t
  | head h1 _ ih => exact .head h1 (ih t)
theorem Rtc.one {R : Nat → Nat → Prop} {i j : Nat} (h : R i j) : Rtc R i j := .head h (.refl j)
theorem Rtc.tail {R : Nat → Nat → Prop} {i k j : Nat} (h : Rtc R i k) (t : R k j) : Rtc R i j := h.trans (.one t)
theorem Rtc.mono {R S : Nat → Nat → Prop} (hRS : ∀ i j, R i j → S i j) {i j : Nat} (h : Rtc R i j) : Rtc S i j := by
  induction h with
  | refl => exact .refl _
  | head h1 _ ih => exact .head (hRS _ _ h1) ih
/-- The set of those below n that meet p. -/
noncomputable def maskN (p : Nat → Prop) : Nat → Nat
  | 0 => 0
  | k + 1 => orN (maskN p k) (open Classical in if p k then pow2 k else 0)
theorem testBit_maskN (p : Nat → Prop) (i : Nat) : ∀ n, (maskN p n).testBit i = true ↔ i < n ∧ p i
  | 0 => by simp [maskN]
  | k + 1 => by
    rw [maskN, testBit_orN, Bool.or_eq_true, testBit_maskN p i k]
    by_cases h : p k
    · rw [if_pos h, testBit_pow2, decide_eq_true_eq]
      constructor
      · rintro (⟨h1, h2⟩ | rfl)
        · exact ⟨by omega, h2⟩
        · exact ⟨by omega, h⟩
      · rintro ⟨h1, h2⟩
        by_cases hk : k = i
        · exact .inr hk
        · exact .inl ⟨by omega, h2⟩
    · rw [if_neg h, Nat.zero_testBit]
      constructor
      · rintro (⟨h1, h2⟩ | h1)
        · exact ⟨by omega, h2⟩
        · cases h1
      · rintro ⟨h1, h2⟩
        have : i ≠ k := by rintro rfl; exact h h2
        exact .inl ⟨by omega, h2⟩
/-- A step by rows. -/
def By (r : List Int) (i j : Nat) : Prop := (natAt r i).testBit j = true
theorem by_lt {n : Nat} {r : List Int} (h : Rel n r) {i j : Nat} (hi : i < n) (hb : By r i j) : j < n := testBit_lt (h.lt i hi) hb
theorem by_plus {n : Nat} {a b : List Int} (ha : Rel n a) {i : Nat} (hi : i < n) (j : Nat) : By (plusTo a b a.length) i j ↔ By a i j ∨ By b i j := by
  unfold By
  rw [natAt_plus a b a.length i (by rw [ha.len]; exact hi), testBit_orN, Bool.or_eq_true]
theorem by_then {n : Nat} {a b : List Int} (ha : Rel n a) (hb : Rel n b) {i : Nat} (hi : i < n) (j : Nat) : By (thenTo a b a.length) i j ↔ ∃ k, By a i k ∧ By b k j := by
  unfold By
  rw [natAt_then a b a.length i (by rw [ha.len]; exact hi), testBit_img]
  constructor
  · rintro ⟨k, h1, h2, h3⟩; exact ⟨k, h2, h3⟩
  · rintro ⟨k, h2, h3⟩
    exact ⟨k, by rw [hb.len]; exact by_lt ha hi h2, h2, h3⟩
theorem by_star {n : Nat} {a : List Int} (ha : Rel n a) (hn : n ≤ 5) {i : Nat} (hi : i < n) (j : Nat) : By (starTo a a.length) i j ↔ Rtc (fun x y => x < n ∧ By a x y) i j := by
  have e : natAt (starTo a a.length) i = clo a (pow2 i) := natAt_star a a.length i (by rw [ha.len]; exact hi)
  have hcl := clo_img ha hn (pow2_lt_two hi)
  constructor
  · intro h
    have hs : Sub (clo a (pow2 i)) (maskN (fun y => Rtc (fun x y => x < n ∧ By a x y) i y) n) := by
      refine clo_least a ?_ ?_
      · intro y hy
        rw [testBit_pow2, decide_eq_true_eq] at hy
        subst hy
        exact (testBit_maskN _ _ _).2 ⟨hi, .refl _⟩
      · intro y hy
        obtain ⟨x, h1, h2, h3⟩ := (testBit_img a _ y).1 hy
        have h4 := (testBit_maskN _ _ _).1 h2
        exact (testBit_maskN _ _ _).2 ⟨by_lt ha h4.1 h3, h4.2.tail ⟨h4.1, h3⟩⟩
    unfold By at h
    rw [e] at h
    exact ((testBit_maskN _ _ _).1 (hs j h)).2
  · intro h
    have key : ∀ x y, Rtc (fun x y => x < n ∧ By a x y) x y → (clo a (pow2 i)).testBit x = true → (clo a (pow2 i)).testBit y = true := by
      intro x y h
      induction h with
      | refl => exact id
      | head h1 _ ih =>
        intro hx
        exact ih (hcl _ ((testBit_img a _ _).2 ⟨_, by rw [ha.len]; exact h1.1, hx, h1.2⟩))
    unfold By
    rw [e]
    exact key i j h (sub_clo a _ i (by rw [testBit_pow2]; simp))
theorem by_test (p q : Int) (t st : Nat) {i : Nat} (hi : i < st) (j : Nat) : By (testL p q t st st) i j ↔ i = j ∧ t.testBit (atomI p q i) = true := by
  unfold By
  rw [natAt_cast (testL_get p q t st st i hi)]
  unfold testRow
  cases hc : (tsTo p q t st).testBit i
  · simp only [Bool.false_eq_true, if_false, Nat.zero_testBit, false_iff]
    rintro ⟨rfl, h⟩
    rw [(testBit_tsTo p q t i st).2 ⟨hi, h⟩] at hc
    cases hc
  · have h := ((testBit_tsTo p q t i st).1 hc).2
    rw [if_pos rfl, testBit_pow2, decide_eq_true_eq]
    exact ⟨fun e => ⟨e, h⟩, fun e => e.1⟩
/-- Where an expression leads in a model with st states. -/
def Kt.Leads (p q : Int) (st : Nat) (ll : List (List Int)) : Kt → Nat → Nat → Prop
  | .leaf s => fun i j => if s ≤ 15 then i = j ∧ s.toNat.testBit (atomI p q i) = true else By (rowI ll (s.toNat - 16)) i j
  | .star a => Rtc (fun x y => x < st ∧ Kt.Leads p q st ll a x y)
  | .two s a b => fun i j => if s = 20 then Kt.Leads p q st ll a i j ∨ Kt.Leads p q st ll b i j else ∃ k, Kt.Leads p q st ll a i k ∧ Kt.Leads p q st ll b k j
theorem leads_iff (p q : Int) (st : Nat) (ll : List (List Int)) (hst : st ≤ 5) (hll : ∀ i, i < 3 → Rel st (rowI ll i)) : ∀ t : Kt, t.Good → ∀ i, i < st → ∀ j, (By (t.rows p q st ll) i j ↔ t.Leads p q st ll i j)
  | .leaf s, hg, i, hi, j => by
    simp only [Kt.rows, Kt.Leads]
    split
    · exact by_test p q _ st hi j
    · exact Iff.rfl
  | .star a, hg, i, hi, j => by
    have hr := a.rows_rel p q st ll (by omega) hll hg
    have ih := leads_iff p q st ll hst hll a hg
    simp only [Kt.rows, Kt.Leads]
    rw [by_star hr hst hi]
    exact ⟨Rtc.mono fun x y h => ⟨h.1, (ih x h.1 y).1 h.2⟩, Rtc.mono fun x y h => ⟨h.1, (ih x h.1 y).2 h.2⟩⟩
  | .two s a b, hg, i, hi, j => by
    have hra := a.rows_rel p q st ll (by omega) hll hg.2.1
    have hrb := b.rows_rel p q st ll (by omega) hll hg.2.2
    have iha := leads_iff p q st ll hst hll a hg.2.1
    have ihb := leads_iff p q st ll hst hll b hg.2.2
    simp only [Kt.rows, Kt.Leads]
    split
    · rw [by_plus hra hi, iha i hi, ihb i hi]
    · rw [by_then hra hrb hi]
      constructor
      · rintro ⟨k, h1, h2⟩
        exact ⟨k, (iha i hi k).1 h1, (ihb k (by_lt hra hi h1) j).1 h2⟩
      · rintro ⟨k, h1, h2⟩
        have h1' := (iha i hi k).2 h1
        exact ⟨k, h1', (ihb k (by_lt hra hi h1') j).2 h2⟩
end Go.Kt
/- Plain law: where an expression leads is told by where it may end and by what is left of it. No program in sight. -/
namespace Go.Kt
set_option linter.unusedVariables false
section
variable {p q : Int} {st : Nat} {ll : List (List Int)}

theorem bit15 (a : Nat) (h : a ≤ 3) : (15 : Nat).testBit a = true := by
  rcases (show a = 0 ∨ a = 1 ∨ a = 2 ∨ a = 3 by omega) with rfl | rfl | rfl | rfl <;> decide
theorem words_15 {t : Kt} (h : t.words = [15]) : t = .leaf 15 := by
  have hl : t.words.length = 1 := by rw [h]; rfl
  cases t with
  | leaf s => simp [Kt.words] at h; rw [h]
  | star a =>
    have h1 := a.words_pos
    simp only [Kt.words, List.length_append, List.length_cons, List.length_nil] at hl
    omega
  | two s a b =>
    have h1 := a.words_pos
    have h2 := b.words_pos
    simp only [Kt.words, List.length_append, List.length_cons, List.length_nil] at hl
    omega
theorem leads_15 (i u : Nat) : Kt.Leads p q st ll (.leaf 15) i u ↔ i = u := by
  unfold Kt.Leads
  rw [if_pos (by decide)]
  exact ⟨fun h => h.1, fun h => ⟨h, bit15 _ (atomI_le p q i)⟩⟩
theorem leads_behind (a t : Kt) (i u : Nat) : (behindK a t).Leads p q st ll i u ↔ ∃ v, a.Leads p q st ll i v ∧ t.Leads p q st ll v u := by
  unfold behindK
  split
  · rename_i h
    rw [words_15 h]
    constructor
    · intro h; exact ⟨i, (leads_15 i i).2 rfl, h⟩
    · rintro ⟨v, h1, h2⟩
      rw [(leads_15 i v).1 h1]; exact h2
  · exact Iff.rfl
theorem ends_sound : ∀ (t : Kt), t.Good → ∀ (i : Nat), t.ends.testBit (atomI p q i) = true → t.Leads p q st ll i i
  | .leaf x, hg, i, h => by
    unfold Kt.ends at h
    show (if x ≤ 15 then i = i ∧ x.toNat.testBit (atomI p q i) = true else _)
    split at h
    · rename_i hx; rw [if_pos hx]; exact ⟨rfl, h⟩
    · simp at h
  | .star a, hg, i, h => Rtc.refl i
  | .two s a b, hg, i, h => by
    unfold Kt.ends at h
    show (if s = 20 then a.Leads p q st ll i i ∨ b.Leads p q st ll i i else ∃ k, a.Leads p q st ll i k ∧ b.Leads p q st ll k i)
    split at h
    · rename_i hs
      rw [Nat.testBit_and, Bool.and_eq_true] at h
      rw [if_neg (by omega)]
      exact ⟨i, ends_sound a hg.2.1 i h.1, ends_sound b hg.2.2 i h.2⟩
    · rename_i hs
      rw [Nat.testBit_or, Bool.or_eq_true] at h
      rw [if_pos (by have := hg.1; omega)]
      exact h.imp (ends_sound a hg.2.1 i) (ends_sound b hg.2.2 i)
theorem leads_plus (a b : Kt) (i u : Nat) : (Kt.two 20 a b).Leads p q st ll i u ↔ a.Leads p q st ll i u ∨ b.Leads p q st ll i u := Iff.rfl
theorem leads_then (a b : Kt) (i u : Nat) : (Kt.two 19 a b).Leads p q st ll i u ↔ ∃ k, a.Leads p q st ll i k ∧ b.Leads p q st ll k u := Iff.rfl
theorem part_sound {i j k : Nat} (hi : i < st) (hb : By (rowI ll k) i j) : ∀ (t : Kt), t.Good → ∀ (r : Kt), r ∈ t.part (atomI p q i) (16 + (k : Int)) → ∀ u, r.Leads p q st ll j u → t.Leads p q st ll i u
  | .leaf x, hg, r, hr, u, hu => by
    unfold Kt.part at hr
    split at hr
    · rename_i hx
      simp at hr
      subst hr hx
      have e := (leads_15 j u).1 hu
      subst e
      show (if 16 + (k : Int) ≤ 15 then _ else By (rowI ll ((16 + (k : Int)).toNat - 16)) i j)
      rw [if_neg (by omega), show (16 + (k : Int)).toNat - 16 = k by omega]
      exact hb
    · cases hr
  | .star a, hg, r, hr, u, hu => by
    unfold Kt.part at hr
    obtain ⟨s, hs, rfl⟩ := List.mem_map.1 hr
    obtain ⟨v, h1, h2⟩ := (leads_behind s _ j u).1 hu
    exact Rtc.head ⟨hi, part_sound hi hb a hg s hs v h1⟩ h2
  | .two s a b, hg, r, hr, u, hu => by
    unfold Kt.part at hr
    split at hr
    · rename_i hs
      subst hs
      rw [leads_then]
      rcases List.mem_append.1 hr with hr | hr
      · obtain ⟨s, hs, rfl⟩ := List.mem_map.1 hr
        obtain ⟨v, h1, h2⟩ := (leads_behind s _ j u).1 hu
        exact ⟨v, part_sound hi hb a hg.2.1 s hs v h1, h2⟩
      · split at hr
        · rename_i he
          exact ⟨i, ends_sound a hg.2.1 i he, part_sound hi hb b hg.2.2 r hr u hu⟩
        · cases hr
    · rename_i hs
      obtain rfl : s = 20 := by have := hg.1; omega
      rw [leads_plus]
      rcases List.mem_append.1 hr with hr | hr
      · exact .inl (part_sound hi hb a hg.2.1 r hr u hu)
      · exact .inr (part_sound hi hb b hg.2.2 r hr u hu)
/-- One step, or none. -/
def Goes (p q : Int) (st : Nat) (ll : List (List Int)) (t : Kt) (i u : Nat) : Prop :=
  (i = u ∧ t.ends.testBit (atomI p q i) = true) ∨ ∃ k j r, k < 3 ∧ r ∈ t.part (atomI p q i) (16 + ((k : Nat) : Int)) ∧ By (rowI ll k) i j ∧ r.Leads p q st ll j u
theorem goes : ∀ (t : Kt), t.Good → ∀ (i u : Nat), t.Leads p q st ll i u → Goes p q st ll t i u
  | .leaf x, hg, i, u, h => by
    have hg : 0 ≤ x ∧ x ≤ 18 := hg
    replace h : (if x ≤ 15 then i = u ∧ x.toNat.testBit (atomI p q i) = true else By (rowI ll (x.toNat - 16)) i u) := h
    split at h
    · rename_i hx
      exact .inl ⟨h.1, by unfold Kt.ends; rw [if_pos hx]; exact h.2⟩
    · rename_i hx
      refine .inr ⟨x.toNat - 16, u, .leaf 15, by omega, ?_, h, (leads_15 u u).2 rfl⟩
      unfold Kt.part
      rw [if_pos (by omega)]; simp
  | .star a, hg, i, u, h => by
    have ih := goes a hg
    replace h : Rtc (fun x y => x < st ∧ a.Leads p q st ll x y) i u := h
    induction h with
    | refl i => exact .inl ⟨rfl, bit15 _ (atomI_le p q i)⟩
    | @head i v u h1 h2 ih2 =>
      rcases ih i v h1.2 with ⟨rfl, -⟩ | ⟨k, j, r, hk, hr, hb, hl⟩
      · exact ih2
      · exact .inr ⟨k, j, behindK r (.star a), hk, List.mem_map.2 ⟨r, hr, rfl⟩, hb, (leads_behind r _ j u).2 ⟨v, hl, h2⟩⟩
  | .two s a b, hg, i, u, h => by
    rcases (show s = 19 ∨ s = 20 from hg.1) with rfl | rfl
    · obtain ⟨v, h1, h2⟩ := h
      rcases goes a hg.2.1 i v h1 with ⟨rfl, he⟩ | ⟨k, j, r, hk, hr, hb, hl⟩
      · rcases goes b hg.2.2 i u h2 with ⟨rfl, he2⟩ | ⟨k, j, r, hk, hr, hb, hl⟩
        · refine .inl ⟨rfl, ?_⟩
          show (a.ends &&& b.ends).testBit _ = true
          rw [Nat.testBit_and, he, he2]; rfl
        · refine .inr ⟨k, j, r, hk, ?_, hb, hl⟩
          unfold Kt.part
          rw [if_pos rfl, if_pos he]
          exact List.mem_append.2 (.inr hr)
      · refine .inr ⟨k, j, behindK r b, hk, ?_, hb, (leads_behind r _ j u).2 ⟨v, hl, h2⟩⟩
        unfold Kt.part
        rw [if_pos rfl]
        exact List.mem_append.2 (.inl (List.mem_map.2 ⟨r, hr, rfl⟩))
    · rcases (show a.Leads p q st ll i u ∨ b.Leads p q st ll i u from h) with h | h
      · rcases goes a hg.2.1 i u h with ⟨rfl, he⟩ | ⟨k, j, r, hk, hr, hb, hl⟩
        · refine .inl ⟨rfl, ?_⟩
          show (a.ends ||| b.ends).testBit _ = true
          rw [Nat.testBit_or, he]; rfl
        · refine .inr ⟨k, j, r, hk, ?_, hb, hl⟩
          unfold Kt.part
          rw [if_neg (by decide)]
          exact List.mem_append.2 (.inl hr)
      · rcases goes b hg.2.2 i u h with ⟨rfl, he⟩ | ⟨k, j, r, hk, hr, hb, hl⟩
        · refine .inl ⟨rfl, ?_⟩
          show (a.ends ||| b.ends).testBit _ = true
          rw [Nat.testBit_or, he, Bool.or_true]
        · refine .inr ⟨k, j, r, hk, ?_, hb, hl⟩
          unfold Kt.part
          rw [if_neg (by decide)]
          exact List.mem_append.2 (.inr hr)
end
end Go.Kt
