/- Merged texts: contracts and plain lemmas (Kg, Mp, Sm). -/
import Derived.Test.YtlaamecfknkmlaaDoorMg1
import Derived.Test.YtlaamecfknkmlaaDoorMg3
/- Plain law: which lists are expressions, and their trees. No program in sight. -/
namespace Go.Kt
set_option linter.unusedVariables false

/-- How many expressions a step takes. -/
def tkK (x : Int) : Int := if x = 19 ∨ x = 20 then 2 else if x = 21 then 1 else 0
/-- The step is none, or finds too few. -/
def BadK (x : Int) (m : Nat) : Prop := x < 0 ∨ 21 < x ∨ (m : Int) < tkK x
instance (x : Int) (m : Nat) : Decidable (BadK x m) := by unfold BadK; infer_instance
def mnyK (l : List Int) : Nat → Option Nat
  | 0 => some 0
  | k + 1 => match mnyK l k with
    | none => none
    | some m => if BadK (nth l k) m then none else some (m - (tkK (nth l k)).toNat + 1)
theorem tkK_range (x : Int) : tkK x = 0 ∨ tkK x = 1 ∨ tkK x = 2 := by
  unfold tkK
  split
  · exact .inr (.inr rfl)
  · split
    · exact .inr (.inl rfl)
    · exact .inl rfl
theorem mnyK_bad {l : List Int} {k m : Nat} (h : mnyK l k = some m) (hb : BadK (nth l k) m) : mnyK l (k + 1) = none := by
  simp only [mnyK, h, if_pos hb]
theorem mnyK_good {l : List Int} {k m : Nat} (h : mnyK l k = some m) (hb : ¬ BadK (nth l k) m) : mnyK l (k + 1) = some (m - (tkK (nth l k)).toNat + 1) := by
  simp only [mnyK, h, if_neg hb]
theorem mnyK_none {l : List Int} {k : Nat} (h : mnyK l k = none) : ∀ d, mnyK l (k + d) = none
  | 0 => h
  | d + 1 => by
    have := mnyK_none h d
    rw [← Nat.add_assoc]
    simp only [mnyK, this]
theorem mnyK_le {l : List Int} : ∀ {k m : Nat}, mnyK l k = some m → m ≤ k
  | 0, m, h => by simp [mnyK] at h; omega
  | k + 1, m, h => by
    cases hk : mnyK l k with
    | none => rw [show mnyK l (k + 1) = none by simp only [mnyK, hk]] at h; cases h
    | some q =>
      have hq := mnyK_le hk
      by_cases hb : BadK (nth l k) q
      · rw [mnyK_bad hk hb] at h; cases h
      · rw [mnyK_good hk hb] at h
        have := Option.some.inj h
        omega
/-- An expression is valid. -/
def kvB (l : List Int) : Bool := decide (1 ≤ l.length ∧ l.length ≤ 40) && decide (mnyK l l.length = some 1)
theorem kvB_none {l : List Int} {k : Nat} (hk : k ≤ l.length) (h : mnyK l k = none) : kvB l = false := by
  have := mnyK_none h (l.length - k)
  rw [show k + (l.length - k) = l.length by omega] at this
  simp [kvB, this]
theorem kvB_out {l : List Int} (h : ¬ (1 ≤ l.length ∧ l.length ≤ 40)) : kvB l = false := by
  unfold kvB; rw [decide_eq_false h]; rfl
theorem kvB_end {l : List Int} {m : Nat} (h : 1 ≤ l.length ∧ l.length ≤ 40) (hm : mnyK l l.length = some m) : kvB l = (m == 1) := by
  unfold kvB; rw [decide_eq_true h, hm, Bool.eq_iff_iff]; simp
theorem kvB_len {l : List Int} (h : kvB l = true) : 1 ≤ l.length ∧ l.length ≤ 40 := by
  unfold kvB at h
  simp only [Bool.and_eq_true, decide_eq_true_eq] at h
  exact h.1
theorem kvB_mny {l : List Int} (h : kvB l = true) : mnyK l l.length = some 1 := by
  unfold kvB at h
  simp only [Bool.and_eq_true, decide_eq_true_eq] at h
  exact h.2
/-- On the way through a valid expression no step is bad. -/
theorem kvB_mid {l : List Int} (h : kvB l = true) {k : Nat} (hk : k ≤ l.length) : ∃ m, mnyK l k = some m := by
  cases hm : mnyK l k with
  | some m => exact ⟨m, rfl⟩
  | none => rw [kvB_none hk hm] at h; cases h
theorem kvB_good {l : List Int} (h : kvB l = true) {k m : Nat} (hk : k < l.length) (hm : mnyK l k = some m) : ¬ BadK (nth l k) m := fun hb => by
  rw [kvB_none (k := k + 1) (by omega) (mnyK_bad hm hb)] at h; cases h

/-- An expression as a tree. -/
inductive Kt where
  | leaf (s : Int)
  | star (a : Kt)
  | two (s : Int) (a b : Kt)
def Kt.words : Kt → List Int
  | .leaf s => [s]
  | .star a => a.words ++ [21]
  | .two s a b => a.words ++ b.words ++ [s]
def Kt.Good : Kt → Prop
  | .leaf s => 0 ≤ s ∧ s ≤ 18
  | .star a => a.Good
  | .two s a b => (s = 19 ∨ s = 20) ∧ a.Good ∧ b.Good
theorem Kt.words_pos (t : Kt) : 1 ≤ t.words.length := by cases t <;> simp [Kt.words] <;> omega
/-- One step on a stack, its top ahead. -/
def stepK (x : Int) (st : List Kt) : List Kt :=
  if x = 19 ∨ x = 20 then match st with
    | b :: a :: r => .two x a b :: r
    | r => r
  else if x = 21 then match st with
    | a :: r => .star a :: r
    | r => r
  else .leaf x :: st
def runK : List Int → List Kt → List Kt
  | [], st => st
  | x :: xs, st => runK xs (stepK x st)
theorem runK_append : ∀ (xs ys : List Int) (st : List Kt), runK (xs ++ ys) st = runK ys (runK xs st)
  | [], ys, st => rfl
  | x :: xs, ys, st => by simp only [List.cons_append, runK, runK_append xs ys]
theorem runK_words : ∀ (t : Kt), t.Good → ∀ st, runK t.words st = t :: st
  | .leaf s, h, st => by
    have : 0 ≤ s ∧ s ≤ 18 := h
    simp only [Kt.words, runK, stepK, if_neg (show ¬ (s = 19 ∨ s = 20) by omega), if_neg (show ¬ s = 21 by omega)]
  | .star a, h, st => by
    have ha := runK_words a h st
    simp only [Kt.words, runK_append, ha, runK, stepK]
    simp
  | .two s a b, h, st => by
    obtain ⟨hs, h1, h2⟩ := h
    have ha := runK_words a h1 st
    have hb := runK_words b h2 (a :: st)
    simp only [Kt.words, runK_append, ha, hb, runK, stepK, if_pos hs]
/-- The words tell the tree. -/
theorem Kt.words_inj {t u : Kt} (ht : t.Good) (hu : u.Good) (h : t.words = u.words) : t = u := by
  have h1 := runK_words t ht []
  have h2 := runK_words u hu []
  rw [h, h2] at h1
  injection h1 with h1
  exact h1.symm
def allK : List Kt → List Int
  | [] => []
  | t :: ts => t.words ++ allK ts
theorem allK_append : ∀ (xs ys : List Kt), allK (xs ++ ys) = allK xs ++ allK ys
  | [], ys => rfl
  | x :: xs, ys => by simp only [List.cons_append, allK, allK_append xs ys, List.append_assoc]
theorem take_nthK {l : List Int} {k : Nat} (h : k < l.length) : l.take (k + 1) = l.take k ++ [nth l k] := by
  have e : nth l k = l[k] := by unfold nth; rw [List.getD_eq_getElem?_getD, List.getElem?_eq_getElem h]; rfl
  rw [List.take_add_one, List.getElem?_eq_getElem h, e]
  rfl
/-- The stack behind the first k steps. -/
def StkK (l : List Int) (k : Nat) (ts : List Kt) : Prop := (∀ t, t ∈ ts → t.Good) ∧ allK ts = l.take k ∧ mnyK l k = some ts.length
theorem StkK.start (l : List Int) : StkK l 0 [] := ⟨(fun t h => by cases h), rfl, rfl⟩
theorem StkK.push {l : List Int} {k : Nat} {us ts : List Kt} {t : Kt} (h : StkK l k (us ++ ts)) (hk : k < l.length) (hn : ¬ BadK (nth l k) (us ++ ts).length) (hg : (∀ t, t ∈ ts → t.Good) → t.Good) (hw : t.words = allK ts ++ [nth l k])
    (ht : tkK (nth l k) = ts.length) : StkK l (k + 1) (us ++ [t]) := by
  obtain ⟨h1, h2, h3⟩ := h
  refine ⟨fun x hx => ?_, ?_, ?_⟩
  · rcases List.mem_append.1 hx with hx | hx
    · exact h1 x (List.mem_append.2 (.inl hx))
    · simp at hx; subst hx
      exact hg fun t ht => h1 t (List.mem_append.2 (.inr ht))
  · rw [take_nthK hk, ← h2, allK_append, allK_append]
    simp only [allK, List.append_nil, hw, List.append_assoc]
  · rw [mnyK_good h3 hn, ht]
    simp
theorem StkK.leaf {l : List Int} {k : Nat} {ts : List Kt} (h : StkK l k ts) (hk : k < l.length) (hn : ¬ BadK (nth l k) ts.length) (h0 : tkK (nth l k) = 0) : StkK l (k + 1) (ts ++ [.leaf (nth l k)]) := by
  refine StkK.push (ts := []) (by rw [List.append_nil]; exact h) hk (by rw [List.append_nil]; exact hn) (fun _ => ?_) rfl (by rw [h0]; rfl)
  unfold BadK at hn
  unfold tkK at h0
  have a1 : ¬ (nth l k = 19 ∨ nth l k = 20) := fun e => by rw [if_pos e] at h0; cases h0
  rw [if_neg a1] at h0
  have a2 : ¬ nth l k = 21 := fun e => by rw [if_pos e] at h0; cases h0
  show 0 ≤ nth l k ∧ nth l k ≤ 18
  omega
theorem StkK.star {l : List Int} {k : Nat} {us : List Kt} {a : Kt} (h : StkK l k (us ++ [a])) (hk : k < l.length) (hn : ¬ BadK (nth l k) (us ++ [a]).length) (h0 : tkK (nth l k) = 1) : StkK l (k + 1) (us ++ [.star a]) := by
  refine StkK.push h hk hn (fun hg => hg a (by simp)) ?_ (by rw [h0]; rfl)
  have : nth l k = 21 := by
    unfold tkK at h0
    split at h0
    · cases h0
    · split at h0
      · assumption
      · cases h0
  simp [Kt.words, allK, this]
theorem StkK.two {l : List Int} {k : Nat} {us : List Kt} {a b : Kt} (h : StkK l k (us ++ [a, b])) (hk : k < l.length) (hn : ¬ BadK (nth l k) (us ++ [a, b]).length) (h0 : tkK (nth l k) = 2) : StkK l (k + 1) (us ++ [.two (nth l k) a b]) := by
  refine StkK.push h hk hn (fun hg => ⟨?_, hg a (by simp), hg b (by simp)⟩) ?_ (by rw [h0]; rfl)
  · unfold tkK at h0
    split at h0
    · assumption
    · split at h0 <;> cases h0
  · simp [Kt.words, allK]
theorem StkK.done {l : List Int} {t : Kt} (h : StkK l l.length [t]) : t.Good ∧ t.words = l := by
  obtain ⟨h1, h2, h3⟩ := h
  refine ⟨h1 t (by simp), ?_⟩
  simpa [allK] using h2
theorem splitK2 {α : Type} {ts : List α} (h : 2 ≤ ts.length) : ∃ us a b, ts = us ++ [a, b] := by
  refine ⟨ts.take (ts.length - 2), ts[ts.length - 2], ts[ts.length - 1], ?_⟩
  have h1 : ts.drop (ts.length - 2) = [ts[ts.length - 2], ts[ts.length - 1]] := by
    rw [List.drop_eq_getElem_cons (by omega), show ts.length - 2 + 1 = ts.length - 1 by omega, List.drop_eq_getElem_cons (by omega), show ts.length - 1 + 1 = ts.length by omega, List.drop_length]
  rw [← h1, List.take_append_drop]
theorem splitK1 {α : Type} {ts : List α} (h : 1 ≤ ts.length) : ∃ us a, ts = us ++ [a] := by
  refine ⟨ts.take (ts.length - 1), ts[ts.length - 1], ?_⟩
  have h1 : ts.drop (ts.length - 1) = [ts[ts.length - 1]] := by
    rw [List.drop_eq_getElem_cons (by omega), show ts.length - 1 + 1 = ts.length by omega, List.drop_length]
  rw [← h1, List.take_append_drop]
theorem not_bad_two {x : Int} {m : Nat} (h : ¬ BadK x m) (h0 : tkK x = 2) : 2 ≤ m := by
  unfold BadK at h; omega
theorem not_bad_one {x : Int} {m : Nat} (h : ¬ BadK x m) (h0 : tkK x = 1) : 1 ≤ m := by
  unfold BadK at h; omega
/-- A valid expression has a tree. -/
theorem kvB_tree {l : List Int} (h : kvB l = true) : ∃ t : Kt, t.Good ∧ t.words = l := by
  have all : ∀ k, k ≤ l.length → ∃ ts, StkK l k ts := by
    intro k
    induction k with
    | zero => exact fun _ => ⟨[], StkK.start l⟩
    | succ k ih =>
      intro hk
      obtain ⟨ts, hs⟩ := ih (by omega)
      have hn := kvB_good h (show k < l.length by omega) hs.2.2
      rcases tkK_range (nth l k) with h0 | h0 | h0
      · exact ⟨_, hs.leaf (by omega) hn h0⟩
      · obtain ⟨us, a, rfl⟩ := splitK1 (not_bad_one hn h0)
        exact ⟨_, hs.star (by omega) hn h0⟩
      · obtain ⟨us, a, b, rfl⟩ := splitK2 (not_bad_two hn h0)
        exact ⟨_, hs.two (by omega) hn h0⟩
  obtain ⟨ts, hs⟩ := all l.length (Nat.le_refl _)
  have h1 := hs.2.2
  rw [kvB_mny h] at h1
  have h2 : ts.length = 1 := (Option.some.inj h1).symm
  obtain ⟨us, a, rfl⟩ := splitK1 (show 1 ≤ ts.length by omega)
  obtain rfl : us = [] := List.eq_nil_of_length_eq_zero (by simp only [List.length_append, List.length_cons, List.length_nil] at h2; omega)
  exact ⟨a, hs.done⟩

/-- What is wanted behind the last j steps: reading backwards, from need on. -/
def needK (l : List Int) (n : Nat) (c : Int) : Nat → Int
  | 0 => c
  | j + 1 => needK l n c j - 1 + tkK (nth l (n - 1 - j))
theorem needK_add (l : List Int) (n : Nat) (c : Int) (i : Nat) : ∀ j, needK l n c (i + j) = needK l (n - i) (needK l n c i) j
  | 0 => rfl
  | j + 1 => by
    rw [← Nat.add_assoc]
    simp only [needK, needK_add l n c i j]
    rw [show n - 1 - (i + j) = n - i - 1 - j by omega]
/-- From a place on stand these words. -/
def SegK (l : List Int) (o : Nat) (ws : List Int) : Prop := ∀ i, i < ws.length → nth l (o + i) = nth ws i
theorem nth_appl {a b : List Int} {i : Nat} (h : i < a.length) : nth (a ++ b) i = nth a i := by
  unfold nth; rw [List.getD_eq_getElem?_getD, List.getD_eq_getElem?_getD, List.getElem?_append_left h]
theorem nth_appr {a b : List Int} {i : Nat} : nth (a ++ b) (a.length + i) = nth b i := by
  unfold nth; rw [List.getD_eq_getElem?_getD, List.getD_eq_getElem?_getD, List.getElem?_append_right (by omega), Nat.add_sub_cancel_left]
theorem SegK.left {l : List Int} {o : Nat} {xs ys : List Int} (h : SegK l o (xs ++ ys)) : SegK l o xs := fun i hi => by
  rw [h i (by rw [List.length_append]; omega), nth_appl hi]
theorem SegK.right {l : List Int} {o : Nat} {xs ys : List Int} (h : SegK l o (xs ++ ys)) : SegK l (o + xs.length) ys := fun i hi => by
  rw [Nat.add_assoc, h (xs.length + i) (by rw [List.length_append]; omega), nth_appr]
theorem needK_seg (l : List Int) : ∀ (t : Kt), t.Good → ∀ (o : Nat), SegK l o t.words → ∀ c : Int, (∀ j, j < t.words.length → c ≤ needK l (o + t.words.length) c j) ∧ needK l (o + t.words.length) c t.words.length = c - 1
  | .leaf s, hg, o, hs, c => by
    have hg : 0 ≤ s ∧ s ≤ 18 := hg
    have h0 : nth l o = s := hs 0 (by simp [Kt.words])
    have ht : tkK s = 0 := by unfold tkK; rw [if_neg (by omega), if_neg (by omega)]
    simp only [Kt.words, List.length_cons, List.length_nil]
    refine ⟨fun j hj => ?_, ?_⟩
    · obtain rfl : j = 0 := by omega
      exact Int.le_refl _
    · simp only [needK, Nat.zero_add, Nat.add_sub_cancel, Nat.sub_zero, h0, ht]
      omega
  | .star a, hg, o, hs, c => by
    have ha := needK_seg l a hg o (SegK.left hs) c
    have hl : nth l (o + a.words.length) = 21 := SegK.right hs 0 (by simp)
    have e : (Kt.star a).words.length = 1 + a.words.length := by simp [Kt.words]; omega
    have h1 : needK l (o + (1 + a.words.length)) c 1 = c := by
      simp only [needK]
      rw [show o + (1 + a.words.length) - 1 - 0 = o + a.words.length by omega, hl]
      show c - 1 + 1 = c
      omega
    rw [e]
    refine ⟨fun j hj => ?_, ?_⟩
    · cases j with
      | zero => exact Int.le_refl _
      | succ j =>
        rw [Nat.add_comm j 1, needK_add, h1, show o + (1 + a.words.length) - 1 = o + a.words.length by omega]
        exact ha.1 j (by omega)
    · rw [needK_add, h1, show o + (1 + a.words.length) - 1 = o + a.words.length by omega]
      exact ha.2
  | .two s a b, hg, o, hs, c => by
    obtain ⟨h2, ga, gb⟩ := hg
    have hab : SegK l o (a.words ++ b.words) := SegK.left hs
    have ha := needK_seg l a ga o (SegK.left hab) c
    have hb := needK_seg l b gb (o + a.words.length) (SegK.right hab) (c + 1)
    have hl : nth l (o + (a.words ++ b.words).length) = s := SegK.right hs 0 (by simp)
    rw [List.length_append] at hl
    have e : (Kt.two s a b).words.length = 1 + (b.words.length + a.words.length) := by simp [Kt.words]; omega
    have h1 : needK l (o + (1 + (b.words.length + a.words.length))) c 1 = c + 1 := by
      simp only [needK]
      rw [show o + (1 + (b.words.length + a.words.length)) - 1 - 0 = o + (a.words.length + b.words.length) by omega, hl]
      have : tkK s = 2 := by unfold tkK; rw [if_pos h2]
      omega
    have h3 : o + (1 + (b.words.length + a.words.length)) - 1 = o + a.words.length + b.words.length := by omega
    have h4 : o + a.words.length + b.words.length - b.words.length = o + a.words.length := by omega
    rw [e]
    refine ⟨fun j hj => ?_, ?_⟩
    · cases j with
      | zero => exact Int.le_refl _
      | succ j =>
        rw [Nat.add_comm j 1, needK_add, h1, h3]
        by_cases hj2 : j < b.words.length
        · have := hb.1 j hj2
          omega
        · obtain ⟨i, rfl⟩ : ∃ i, j = b.words.length + i := ⟨j - b.words.length, by omega⟩
          rw [needK_add, hb.2, h4, show c + 1 - 1 = c by omega]
          exact ha.1 i (by omega)
    · rw [needK_add, h1, h3, needK_add, hb.2, h4, show c + 1 - 1 = c by omega]
      exact ha.2
theorem needK_le (l : List Int) (n : Nat) (c : Int) (hc : 0 ≤ c) : ∀ j : Nat, -(j : Int) ≤ needK l n c j ∧ needK l n c j ≤ c + j
  | 0 => ⟨by simp only [needK]; omega, by simp only [needK]; omega⟩
  | j + 1 => by
    have := needK_le l n c hc j
    have h2 := tkK_range (nth l (n - 1 - j))
    simp only [needK]
    omega
end Go.Kt
/- Plain law: the rows of an expression in a model; the states from which it leads only to a set. No program in sight. -/
namespace Go.Kt
set_option linter.unusedVariables false

/-- The row of a state at a test. -/
def testRow (p q : Int) (t st k : Nat) : Nat := if (tsTo p q t st).testBit k then pow2 k else 0
def testL (p q : Int) (t st k : Nat) : List Int := (List.range k).map fun i => ((testRow p q t st i : Nat) : Int)
theorem testL_length (p q : Int) (t st k : Nat) : (testL p q t st k).length = k := by simp [testL]
theorem testL_get (p q : Int) (t st k i : Nat) (h : i < k) : nth (testL p q t st k) i = ((testRow p q t st i : Nat) : Int) := by
  rw [nth_getElem _ _ (by rw [testL_length]; exact h)]; simp [testL]
theorem testL_succ (p q : Int) (t st k : Nat) : testL p q t st (k + 1) = testL p q t st k ++ [((testRow p q t st k : Nat) : Int)] := by simp [testL, List.range_succ]
theorem testRow_lt (p q : Int) {t st k : Nat} (hk : k < st) : testRow p q t st k < 2 ^ st := by
  unfold testRow
  split
  · exact pow2_lt_two hk
  · exact Nat.two_pow_pos st
theorem Rel.test (p q : Int) {t st : Nat} (h : st ≤ 31) : Rel st (testL p q t st st) := by
  refine ⟨testL_length _ _ _ _ _, h, ?_, ?_⟩
  · exact sets_of_cast (fun i => testRow p q t st i) (fun i hi => testL_get p q t st st i (by rw [testL_length] at hi; exact hi)) fun i hi => two_pow_31 h (testRow_lt p q (by rw [testL_length] at hi; exact hi))
  · intro i hi
    rw [natAt_cast (testL_get p q t st st i hi)]
    exact testRow_lt p q hi
/-- The rows of an expression. -/
def Kt.rows (p q : Int) (st : Nat) (ll : List (List Int)) : Kt → List Int
  | .leaf s => if s ≤ 15 then testL p q s.toNat st st else rowI ll (s.toNat - 16)
  | .star a => starTo (Kt.rows p q st ll a) (Kt.rows p q st ll a).length
  | .two s a b => if s = 20 then plusTo (Kt.rows p q st ll a) (Kt.rows p q st ll b) (Kt.rows p q st ll a).length else thenTo (Kt.rows p q st ll a) (Kt.rows p q st ll b) (Kt.rows p q st ll a).length
theorem Kt.rows_rel (p q : Int) (st : Nat) (ll : List (List Int)) (hst : st ≤ 31) (hll : ∀ i, i < 3 → Rel st (rowI ll i)) : ∀ t : Kt, t.Good → Rel st (t.rows p q st ll)
  | .leaf s, h => by
    have h : 0 ≤ s ∧ s ≤ 18 := h
    simp only [Kt.rows]
    split
    · exact Rel.test p q hst
    · exact hll _ (by omega)
  | .star a, h => (a.rows_rel p q st ll hst hll h).starTo
  | .two s a b, h => by
    simp only [Kt.rows]
    split
    · exact (a.rows_rel p q st ll hst hll h.2.1).plusTo (b.rows_rel p q st ll hst hll h.2.2)
    · exact (a.rows_rel p q st ll hst hll h.2.1).thenTo (b.rows_rel p q st ll hst hll h.2.2)

/-- The states, of the first k, whose row lies in a set. -/
def inTo (r : List Int) (x : Nat) : Nat → Nat
  | 0 => 0
  | k + 1 => inTo r x k + if andN (natAt r k) x = natAt r k then pow2 k else 0
theorem inTo_lt (r : List Int) (x : Nat) : ∀ k, inTo r x k < 2 ^ k
  | 0 => by simp [inTo]
  | k + 1 => by
    have := inTo_lt r x k
    simp only [inTo, Nat.pow_succ]
    unfold pow2
    split <;> omega
theorem inTo_or (r : List Int) (x k : Nat) (h : andN (natAt r k) x = natAt r k) : orN (inTo r x k) (pow2 k) = inTo r x (k + 1) := by
  have := Nat.two_pow_add_eq_or_of_lt (inTo_lt r x k) 1
  rw [Nat.mul_one] at this
  simp only [inTo]
  rw [if_pos h, orN, pow2, Nat.or_comm, ← this, Nat.add_comm]
/-- Cut down by f until nothing is lost. -/
def shr (f : Nat → Nat) : Nat → Nat → Nat
  | 0, s => s
  | n + 1, s => if andN s (f s) = s then s else shr f n (andN s (f s))
theorem shr_fix {f : Nat → Nat} {s : Nat} (h : andN s (f s) = s) : ∀ n, shr f n s = s
  | 0 => rfl
  | n + 1 => if_pos h
theorem andN_lt {s t : Nat} (h : andN s t ≠ s) : andN s t < s := Nat.lt_of_le_of_ne (andN_le s t) h
theorem shr_more (f : Nat → Nat) : ∀ (n s : Nat), s ≤ n → ∀ d, shr f (n + d) s = shr f n s
  | 0, s, hs, d => by
    obtain rfl : s = 0 := by omega
    exact shr_fix (by simp [andN]) _
  | n + 1, s, hs, d => by
    by_cases h : andN s (f s) = s
    · rw [shr_fix h, shr_fix h]
    · have hlt := andN_lt h
      rw [show n + 1 + d = (n + d) + 1 by omega]
      simp only [shr, if_neg h]
      exact shr_more f n _ (by omega) d
theorem shr_step {f : Nat → Nat} {n s : Nat} (hs : s ≤ n) (h : andN s (f s) ≠ s) : shr f n (andN s (f s)) = shr f n s := by
  have hlt := andN_lt h
  obtain ⟨m, rfl⟩ : ∃ m, n = m + 1 := ⟨n - 1, by omega⟩
  have : shr f (m + 1) s = shr f m (andN s (f s)) := if_neg h
  rw [this]
  exact shr_more f m _ (by omega) 1
theorem shr_le (f : Nat → Nat) : ∀ n s, shr f n s ≤ s
  | 0, s => Nat.le_refl _
  | n + 1, s => by
    simp only [shr]
    split
    · exact Nat.le_refl _
    · exact Nat.le_trans (shr_le f n _) (andN_le _ _)
/-- The states from which an expression leads only to a set. -/
def Kt.weak (p q : Int) (st : Nat) (ll : List (List Int)) : Kt → Nat → Nat
  | .leaf s, x => if s ≤ 15 then orN (2 ^ st - 1 - tsTo p q s.toNat st) x else inTo (rowI ll (s.toNat - 16)) x st
  | .star a, x => shr (Kt.weak p q st ll a) x x
  | .two s a b, x => if s = 20 then andN (Kt.weak p q st ll a x) (Kt.weak p q st ll b x) else Kt.weak p q st ll a (Kt.weak p q st ll b x)
theorem Kt.weak_lt (p q : Int) (st : Nat) (ll : List (List Int)) : ∀ (t : Kt) (x : Nat), x < 2 ^ st → t.weak p q st ll x < 2 ^ st
  | .leaf s, x, hx => by
    have := Nat.two_pow_pos st
    simp only [Kt.weak]
    split
    · exact orN_lt (by omega) hx
    · exact inTo_lt _ _ _
  | .star a, x, hx => Nat.lt_of_le_of_lt (shr_le _ _ _) hx
  | .two s a b, x, hx => by
    simp only [Kt.weak]
    split
    · exact Nat.lt_of_le_of_lt (andN_le _ _) (a.weak_lt p q st ll x hx)
    · exact a.weak_lt p q st ll _ (b.weak_lt p q st ll x hx)
end Go.Kt
/- Plain law: the rows of an expression, as a relation of states. No program in sight. -/
namespace Go.Kt
set_option linter.unusedVariables false

/-- Again and again. -/
inductive Rtc (R : Nat → Nat → Prop) : Nat → Nat → Prop
  | refl (i : Nat) : Rtc R i i
  | head {i k j : Nat} (h : R i k) (t : Rtc R k j) : Rtc R i j
theorem Rtc.trans {R : Nat → Nat → Prop} {i k j : Nat} (h : Rtc R i k) (t : Rtc R k j) : Rtc R i j := by
  induction h with
  | refl => exact t
  | head h1 _ ih => exact .head h1 (ih t)
theorem Rtc.one {R : Nat → Nat → Prop} {i j : Nat} (h : R i j) : Rtc R i j := .head h (.refl j)
theorem Rtc.tail {R : Nat → Nat → Prop} {i k j : Nat} (h : Rtc R i k) (t : R k j) : Rtc R i j := h.trans (.one t)
theorem Rtc.mono {R S : Nat → Nat → Prop} (hRS : ∀ i j, R i j → S i j) {i j : Nat} (h : Rtc R i j) : Rtc S i j := by
  induction h with
  | refl => exact .refl _
  | head h1 _ ih => exact .head (hRS _ _ h1) ih
/-- The set of those below n that meet p. -/
noncomputable def maskN (p : Nat → Prop) : Nat → Nat
  | 0 => 0
  | k + 1 => orN (maskN p k) (open Classical in if p k then pow2 k else 0)
theorem testBit_maskN (p : Nat → Prop) (i : Nat) : ∀ n, (maskN p n).testBit i = true ↔ i < n ∧ p i
  | 0 => by simp [maskN]
  | k + 1 => by
    rw [maskN, testBit_orN, Bool.or_eq_true, testBit_maskN p i k]
    by_cases h : p k
    · rw [if_pos h, testBit_pow2, decide_eq_true_eq]
      constructor
      · rintro (⟨h1, h2⟩ | rfl)
        · exact ⟨by omega, h2⟩
        · exact ⟨by omega, h⟩
      · rintro ⟨h1, h2⟩
        by_cases hk : k = i
        · exact .inr hk
        · exact .inl ⟨by omega, h2⟩
    · rw [if_neg h, Nat.zero_testBit]
      constructor
      · rintro (⟨h1, h2⟩ | h1)
        · exact ⟨by omega, h2⟩
        · cases h1
      · rintro ⟨h1, h2⟩
        have : i ≠ k := by rintro rfl; exact h h2
        exact .inl ⟨by omega, h2⟩
/-- A step by rows. -/
def By (r : List Int) (i j : Nat) : Prop := (natAt r i).testBit j = true
theorem by_lt {n : Nat} {r : List Int} (h : Rel n r) {i j : Nat} (hi : i < n) (hb : By r i j) : j < n := testBit_lt (h.lt i hi) hb
theorem by_plus {n : Nat} {a b : List Int} (ha : Rel n a) {i : Nat} (hi : i < n) (j : Nat) : By (plusTo a b a.length) i j ↔ By a i j ∨ By b i j := by
  unfold By
  rw [natAt_plus a b a.length i (by rw [ha.len]; exact hi), testBit_orN, Bool.or_eq_true]
theorem by_then {n : Nat} {a b : List Int} (ha : Rel n a) (hb : Rel n b) {i : Nat} (hi : i < n) (j : Nat) : By (thenTo a b a.length) i j ↔ ∃ k, By a i k ∧ By b k j := by
  unfold By
  rw [natAt_then a b a.length i (by rw [ha.len]; exact hi), testBit_img]
  constructor
  · rintro ⟨k, h1, h2, h3⟩; exact ⟨k, h2, h3⟩
  · rintro ⟨k, h2, h3⟩
    exact ⟨k, by rw [hb.len]; exact by_lt ha hi h2, h2, h3⟩
theorem by_star {n : Nat} {a : List Int} (ha : Rel n a) (hn : n ≤ 5) {i : Nat} (hi : i < n) (j : Nat) : By (starTo a a.length) i j ↔ Rtc (fun x y => x < n ∧ By a x y) i j := by
  have e : natAt (starTo a a.length) i = clo a (pow2 i) := natAt_star a a.length i (by rw [ha.len]; exact hi)
  have hcl := clo_img ha hn (pow2_lt_two hi)
  constructor
  · intro h
    have hs : Sub (clo a (pow2 i)) (maskN (fun y => Rtc (fun x y => x < n ∧ By a x y) i y) n) := by
      refine clo_least a ?_ ?_
      · intro y hy
        rw [testBit_pow2, decide_eq_true_eq] at hy
        subst hy
        exact (testBit_maskN _ _ _).2 ⟨hi, .refl _⟩
      · intro y hy
        obtain ⟨x, h1, h2, h3⟩ := (testBit_img a _ y).1 hy
        have h4 := (testBit_maskN _ _ _).1 h2
        exact (testBit_maskN _ _ _).2 ⟨by_lt ha h4.1 h3, h4.2.tail ⟨h4.1, h3⟩⟩
    unfold By at h
    rw [e] at h
    exact ((testBit_maskN _ _ _).1 (hs j h)).2
  · intro h
    have key : ∀ x y, Rtc (fun x y => x < n ∧ By a x y) x y → (clo a (pow2 i)).testBit x = true → (clo a (pow2 i)).testBit y = true := by
      intro x y h
      induction h with
      | refl => exact id
      | head h1 _ ih =>
        intro hx
        exact ih (hcl _ ((testBit_img a _ _).2 ⟨_, by rw [ha.len]; exact h1.1, hx, h1.2⟩))
    unfold By
    rw [e]
    exact key i j h (sub_clo a _ i (by rw [testBit_pow2]; simp))
theorem by_test (p q : Int) (t st : Nat) {i : Nat} (hi : i < st) (j : Nat) : By (testL p q t st st) i j ↔ i = j ∧ t.testBit (atomI p q i) = true := by
  unfold By
  rw [natAt_cast (testL_get p q t st st i hi)]
  unfold testRow
  cases hc : (tsTo p q t st).testBit i
  · simp only [Bool.false_eq_true, if_false, Nat.zero_testBit, false_iff]
    rintro ⟨rfl, h⟩
    rw [(testBit_tsTo p q t i st).2 ⟨hi, h⟩] at hc
    cases hc
  · have h := ((testBit_tsTo p q t i st).1 hc).2
    rw [if_pos rfl, testBit_pow2, decide_eq_true_eq]
    exact ⟨fun e => ⟨e, h⟩, fun e => e.1⟩
/-- Where an expression leads in a model with st states. -/
def Kt.Leads (p q : Int) (st : Nat) (ll : List (List Int)) : Kt → Nat → Nat → Prop
  | .leaf s => fun i j => if s ≤ 15 then i = j ∧ s.toNat.testBit (atomI p q i) = true else By (rowI ll (s.toNat - 16)) i j
  | .star a => Rtc (fun x y => x < st ∧ Kt.Leads p q st ll a x y)
  | .two s a b => fun i j => if s = 20 then Kt.Leads p q st ll a i j ∨ Kt.Leads p q st ll b i j else ∃ k, Kt.Leads p q st ll a i k ∧ Kt.Leads p q st ll b k j
theorem leads_iff (p q : Int) (st : Nat) (ll : List (List Int)) (hst : st ≤ 5) (hll : ∀ i, i < 3 → Rel st (rowI ll i)) : ∀ t : Kt, t.Good → ∀ i, i < st → ∀ j, (By (t.rows p q st ll) i j ↔ t.Leads p q st ll i j)
  | .leaf s, hg, i, hi, j => by
    simp only [Kt.rows, Kt.Leads]
    split
    · exact by_test p q _ st hi j
    · exact Iff.rfl
  | .star a, hg, i, hi, j => by
    have hr := a.rows_rel p q st ll (by omega) hll hg
    have ih := leads_iff p q st ll hst hll a hg
    simp only [Kt.rows, Kt.Leads]
    rw [by_star hr hst hi]
    exact ⟨Rtc.mono fun x y h => ⟨h.1, (ih x h.1 y).1 h.2⟩, Rtc.mono fun x y h => ⟨h.1, (ih x h.1 y).2 h.2⟩⟩
  | .two s a b, hg, i, hi, j => by
    have hra := a.rows_rel p q st ll (by omega) hll hg.2.1
    have hrb := b.rows_rel p q st ll (by omega) hll hg.2.2
    have iha := leads_iff p q st ll hst hll a hg.2.1
    have ihb := leads_iff p q st ll hst hll b hg.2.2
    simp only [Kt.rows, Kt.Leads]
    split
    · rw [by_plus hra hi, iha i hi, ihb i hi]
    · rw [by_then hra hrb hi]
      constructor
      · rintro ⟨k, h1, h2⟩
        exact ⟨k, (iha i hi k).1 h1, (ihb k (by_lt hra hi h1) j).1 h2⟩
      · rintro ⟨k, h1, h2⟩
        have h1' := (iha i hi k).2 h1
        exact ⟨k, h1', (ihb k (by_lt hra hi h1') j).2 h2⟩
end Go.Kt
