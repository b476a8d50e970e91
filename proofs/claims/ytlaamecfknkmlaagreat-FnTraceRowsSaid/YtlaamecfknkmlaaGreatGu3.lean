/- Merged texts: contracts and plain lemmas (Kg). -/
import Derived.Test.YtlaamecfknkmlaaGreatGu1
/- Plain law: which lists are expressions, and their trees. No program in sight. -/
namespace Go.Kt
set_option linter.unusedVariables false

/-- How many expressions a step takes. -/
def tkK (x : Int) : Int := if x = 19 ∨ x = 20 then 2 else if x = 21 then 1 else 0
/-- The step is none, or finds too few. -/
def BadK (x : Int) (m : Nat) : Prop := x < 0 ∨ 21 < x ∨ (m : Int) < tkK x
instance (x : Int) (m : Nat) : Decidable (BadK x m) := by unfold BadK; infer_instance
def mnyK (l : List Int) : Nat → Option Nat
  | 0 => some 0
  | k + 1 => match mnyK l k with
    | none => none
    | some m => if BadK (nth l k) m then none else some (m - (tkK (nth l k)).toNat + 1)
theorem tkK_range (x : Int) : tkK x = 0 ∨ tkK x = 1 ∨ tkK x = 2 := by
  unfold tkK
  split
  · exact .inr (.inr rfl)
  · split
    · exact .inr (.inl rfl)
    · exact .inl rfl
theorem mnyK_bad {l : List Int} {k m : Nat} (h : mnyK l k = some m) (hb : BadK (nth l k) m) : mnyK l (k + 1) = none := by
  simp only [mnyK, h, if_pos hb]
theorem mnyK_good {l : List Int} {k m : Nat} (h : mnyK l k = some m) (hb : ¬ BadK (nth l k) m) : mnyK l (k + 1) = some (m - (tkK (nth l k)).toNat + 1) := by
  simp only [mnyK, h, if_neg hb]
theorem mnyK_none {l : List Int} {k : Nat} (h : mnyK l k = none) : ∀ d, mnyK l (k + d) = none
  | 0 => h
  | d + 1 => by
    have := mnyK_none h d
    rw [← Nat.add_assoc]
    simp only [mnyK, this]
theorem mnyK_le {l : List Int} : ∀ {k m : Nat}, mnyK l k = some m → m ≤ k
  | 0, m, h => by simp [mnyK] at h; omega
  | k + 1, m, h => by
    cases hk : mnyK l k with
    | none => rw [show mnyK l (k + 1) = none by simp only [mnyK, hk]] at h; cases h
    | some q =>
      have hq := mnyK_le hk
      by_cases hb : BadK (nth l k) q
      · rw [mnyK_bad hk hb] at h; cases h
      · rw [mnyK_good hk hb] at h
        have := Option.some.inj h
        omega
/-- An expression is valid. -/
def kvB (l : List Int) : Bool := decide (1 ≤ l.length ∧ l.length ≤ 40) && decide (mnyK l l.length = some 1)
theorem kvB_none {l : List Int} {k : Nat} (hk : k ≤ l.length) (h : mnyK l k = none) : kvB l = false := by
  have := mnyK_none h (l.length - k)
  rw [show k + (l.length - k) = l.length by omega] at this
  simp [kvB, this]
theorem kvB_out {l : List Int} (h : ¬ (1 ≤ l.length ∧ l.length ≤ 40)) : kvB l = false := by
  unfold kvB; rw [decide_eq_false h]; rfl
theorem kvB_end {l : List Int} {m : Nat} (h : 1 ≤ l.length ∧ l.length ≤ 40) (hm : mnyK l l.length = some m) : kvB l = (m == 1) := by
  unfold kvB; rw [decide_eq_true h, hm, Bool.eq_iff_iff]; simp
theorem kvB_len {l : List Int} (h : kvB l = true) : 1 ≤ l.length ∧ l.length ≤ 40 := by
  unfold kvB at h
  simp only [Bool.and_eq_true, decide_eq_true_eq] at h
  exact h.1
theorem kvB_mny {l : List Int} (h : kvB l = true) : mnyK l l.length = some 1 := by
  unfold kvB at h
  simp only [Bool.and_eq_true, decide_eq_true_eq] at h
  exact h.2
/-- On the way through a valid expression no step is bad. -/
theorem kvB_mid {l : List Int} (h : kvB l = true) {k : Nat} (hk : k ≤ l.length) : ∃ m, mnyK l k = some m := by
  cases hm : mnyK l k with
  | some m => exact ⟨m, rfl⟩
  | none => rw [kvB_none hk hm] at h; cases h
theorem kvB_good {l : List Int} (h : kvB l = true) {k m : Nat} (hk : k < l.length) (hm : mnyK l k = some m) : ¬ BadK (nth l k) m := fun hb => by
  rw [kvB_none (k := k + 1) (by omega) (mnyK_bad hm hb)] at h; cases h

/-- Expressions that may be longer than asked. -/
def KvL (l : List Int) : Prop := 1 ≤ l.length ∧ l.length ≤ 4096 ∧ mnyK l l.length = some 1
theorem KvL.of {l : List Int} (h : kvB l = true) : KvL l := ⟨(kvB_len h).1, by have := (kvB_len h).2; omega, kvB_mny h⟩
theorem KvL.good {l : List Int} (h : KvL l) {k m : Nat} (hk : k < l.length) (hm : mnyK l k = some m) : ¬ BadK (nth l k) m := fun hb => by
  have h1 := mnyK_none (mnyK_bad hm hb) (l.length - (k + 1))
  rw [show k + 1 + (l.length - (k + 1)) = l.length by omega, h.2.2] at h1
  cases h1
/-- An expression as a tree. -/
inductive Kt where
  | leaf (s : Int)
  | star (a : Kt)
  | two (s : Int) (a b : Kt)
def Kt.words : Kt → List Int
  | .leaf s => [s]
  | .star a => a.words ++ [21]
  | .two s a b => a.words ++ b.words ++ [s]
def Kt.Good : Kt → Prop
  | .leaf s => 0 ≤ s ∧ s ≤ 18
  | .star a => a.Good
  | .two s a b => (s = 19 ∨ s = 20) ∧ a.Good ∧ b.Good
theorem Kt.words_pos (t : Kt) : 1 ≤ t.words.length := by cases t <;> simp [Kt.words] <;> omega
/-- One step on a stack, its top ahead. -/
def stepK (x : Int) (st : List Kt) : List Kt :=
  if x = 19 ∨ x = 20 then match st with
    | b :: a :: r => .two x a b :: r
    | r => r
  else if x = 21 then match st with
    | a :: r => .star a :: r
    | r => r
  else .leaf x :: st
def runK : List Int → List Kt → List Kt
  | [], st => st
  | x :: xs, st => runK xs (stepK x st)
theorem runK_append : ∀ (xs ys : List Int) (st : List Kt), runK (xs ++ ys) st = runK ys (runK xs st)
  | [], ys, st => rfl
  | x :: xs, ys, st => by simp only [List.cons_append, runK, runK_append xs ys]
theorem runK_words : ∀ (t : Kt), t.Good → ∀ st, runK t.words st = t :: st
  | .leaf s, h, st => by
    have : 0 ≤ s ∧ s ≤ 18 := h
    simp only [Kt.words, runK, stepK, if_neg (show ¬ (s = 19 ∨ s = 20) by omega), if_neg (show ¬ s = 21 by omega)]
  | .star a, h, st => by
    have ha := runK_words a h st
    simp only [Kt.words, runK_append, ha, runK, stepK]
    simp
  | .two s a b, h, st => by
    obtain ⟨hs, h1, h2⟩ := h
    have ha := runK_words a h1 st
    have hb := runK_words b h2 (a :: st)
    simp only [Kt.words, runK_append, ha, hb, runK, stepK, if_pos hs]
/-- The words tell the tree. -/
theorem Kt.words_inj {t u : Kt} (ht : t.Good) (hu : u.Good) (h : t.words = u.words) : t = u := by
  have h1 := runK_words t ht []
  have h2 := runK_words u hu []
  rw [h, h2] at h1
  injection h1 with h1
  exact h1.symm
def allK : List Kt → List Int
  | [] => []
  | t :: ts => t.words ++ allK ts
theorem allK_append : ∀ (xs ys : List Kt), allK (xs ++ ys) = allK xs ++ allK ys
  | [], ys => rfl
  | x :: xs, ys => by simp only [List.cons_append, allK, allK_append xs ys, List.append_assoc]
theorem take_nthK {l : List Int} {k : Nat} (h : k < l.length) : l.take (k + 1) = l.take k ++ [nth l k] := by
  have e : nth l k = l[k] := by unfold nth; rw [List.getD_eq_getElem?_getD, List.getElem?_eq_getElem h]; rfl
  rw [List.take_add_one, List.getElem?_eq_getElem h, e]
  rfl
/-- The stack behind the first k steps. -/
def StkK (l : List Int) (k : Nat) (ts : List Kt) : Prop := (∀ t, t ∈ ts → t.Good) ∧ allK ts = l.take k ∧ mnyK l k = some ts.length
theorem StkK.start (l : List Int) : StkK l 0 [] := ⟨(fun t h => by cases h), rfl, rfl⟩
theorem StkK.push {l : List Int} {k : Nat} {us ts : List Kt} {t : Kt} (h : StkK l k (us ++ ts)) (hk : k < l.length) (hn : ¬ BadK (nth l k) (us ++ ts).length) (hg : (∀ t, t ∈ ts → t.Good) → t.Good) (hw : t.words = allK ts ++ [nth l k])
    (ht : tkK (nth l k) = ts.length) : StkK l (k + 1) (us ++ [t]) := by
  obtain ⟨h1, h2, h3⟩ := h
  refine ⟨fun x hx => ?_, ?_, ?_⟩
  · rcases List.mem_append.1 hx with hx | hx
    · exact h1 x (List.mem_append.2 (.inl hx))
    · simp at hx; subst hx
      exact hg fun t ht => h1 t (List.mem_append.2 (.inr ht))
  · rw [take_nthK hk, ← h2, allK_append, allK_append]
    simp only [allK, List.append_nil, hw, List.append_assoc]
  · rw [mnyK_good h3 hn, ht]
    simp
theorem StkK.leaf {l : List Int} {k : Nat} {ts : List Kt} (h : StkK l k ts) (hk : k < l.length) (hn : ¬ BadK (nth l k) ts.length) (h0 : tkK (nth l k) = 0) : StkK l (k + 1) (ts ++ [.leaf (nth l k)]) := by
  refine StkK.push (ts := []) (by rw [List.append_nil]; exact h) hk (by rw [List.append_nil]; exact hn) (fun _ => ?_) rfl (by rw [h0]; rfl)
  unfold BadK at hn
  unfold tkK at h0
  have a1 : ¬ (nth l k = 19 ∨ nth l k = 20) := fun e => by rw [if_pos e] at h0; cases h0
  rw [if_neg a1] at h0
  have a2 : ¬ nth l k = 21 := fun e => by rw [if_pos e] at h0; cases h0
  show 0 ≤ nth l k ∧ nth l k ≤ 18
  omega
theorem StkK.star {l : List Int} {k : Nat} {us : List Kt} {a : Kt} (h : StkK l k (us ++ [a])) (hk : k < l.length) (hn : ¬ BadK (nth l k) (us ++ [a]).length) (h0 : tkK (nth l k) = 1) : StkK l (k + 1) (us ++ [.star a]) := by
  refine StkK.push h hk hn (fun hg => hg a (by simp)) ?_ (by rw [h0]; rfl)
  have : nth l k = 21 := by
    unfold tkK at h0
    split at h0
    · cases h0
    · split at h0
      · assumption
      · cases h0
  simp [Kt.words, allK, this]
theorem StkK.two {l : List Int} {k : Nat} {us : List Kt} {a b : Kt} (h : StkK l k (us ++ [a, b])) (hk : k < l.length) (hn : ¬ BadK (nth l k) (us ++ [a, b]).length) (h0 : tkK (nth l k) = 2) : StkK l (k + 1) (us ++ [.two (nth l k) a b]) := by
  refine StkK.push h hk hn (fun hg => ⟨?_, hg a (by simp), hg b (by simp)⟩) ?_ (by rw [h0]; rfl)
  · unfold tkK at h0
    split at h0
    · assumption
    · split at h0 <;> cases h0
  · simp [Kt.words, allK]
theorem StkK.done {l : List Int} {t : Kt} (h : StkK l l.length [t]) : t.Good ∧ t.words = l := by
  obtain ⟨h1, h2, h3⟩ := h
  refine ⟨h1 t (by simp), ?_⟩
  simpa [allK] using h2
theorem splitK2 {α : Type} {ts : List α} (h : 2 ≤ ts.length) : ∃ us a b, ts = us ++ [a, b] := by
  refine ⟨ts.take (ts.length - 2), ts[ts.length - 2], ts[ts.length - 1], ?_⟩
  have h1 : ts.drop (ts.length - 2) = [ts[ts.length - 2], ts[ts.length - 1]] := by
    rw [List.drop_eq_getElem_cons (by omega), show ts.length - 2 + 1 = ts.length - 1 by omega, List.drop_eq_getElem_cons (by omega), show ts.length - 1 + 1 = ts.length by omega, List.drop_length]
  rw [← h1, List.take_append_drop]
theorem splitK1 {α : Type} {ts : List α} (h : 1 ≤ ts.length) : ∃ us a, ts = us ++ [a] := by
  refine ⟨ts.take (ts.length - 1), ts[ts.length - 1], ?_⟩
  have h1 : ts.drop (ts.length - 1) = [ts[ts.length - 1]] := by
    rw [List.drop_eq_getElem_cons (by omega), show ts.length - 1 + 1 = ts.length by omega, List.drop_length]
  rw [← h1, List.take_append_drop]
theorem not_bad_two {x : Int} {m : Nat} (h : ¬ BadK x m) (h0 : tkK x = 2) : 2 ≤ m := by
  unfold BadK at h; omega
theorem not_bad_one {x : Int} {m : Nat} (h : ¬ BadK x m) (h0 : tkK x = 1) : 1 ≤ m := by
  unfold BadK at h; omega
/-- A valid expression has a tree. -/
theorem kvB_tree {l : List Int} (h : kvB l = true) : ∃ t : Kt, t.Good ∧ t.words = l := by
  have all : ∀ k, k ≤ l.length → ∃ ts, StkK l k ts := by
    intro k
    induction k with
    | zero => exact fun _ => ⟨[], StkK.start l⟩
    | succ k ih =>
      intro hk
      obtain ⟨ts, hs⟩ := ih (by omega)
      have hn := kvB_good h (show k < l.length by omega) hs.2.2
      rcases tkK_range (nth l k) with h0 | h0 | h0
      · exact ⟨_, hs.leaf (by omega) hn h0⟩
      · obtain ⟨us, a, rfl⟩ := splitK1 (not_bad_one hn h0)
        exact ⟨_, hs.star (by omega) hn h0⟩
      · obtain ⟨us, a, b, rfl⟩ := splitK2 (not_bad_two hn h0)
        exact ⟨_, hs.two (by omega) hn h0⟩
  obtain ⟨ts, hs⟩ := all l.length (Nat.le_refl _)
  have h1 := hs.2.2
  rw [kvB_mny h] at h1
  have h2 : ts.length = 1 := (Option.some.inj h1).symm
  obtain ⟨us, a, rfl⟩ := splitK1 (show 1 ≤ ts.length by omega)
  obtain rfl : us = [] := List.eq_nil_of_length_eq_zero (by simp only [List.length_append, List.length_cons, List.length_nil] at h2; omega)
  exact ⟨a, hs.done⟩

/-- What is wanted behind the last j steps: reading backwards, from need on. -/
def needK (l : List Int) (n : Nat) (c : Int) : Nat → Int
  | 0 => c
  | j + 1 => needK l n c j - 1 + tkK (nth l (n - 1 - j))
theorem needK_add (l : List Int) (n : Nat) (c : Int) (i : Nat) : ∀ j, needK l n c (i + j) = needK l (n - i) (needK l n c i) j
  | 0 => rfl
  | j + 1 => by
    rw [← Nat.add_assoc]
    simp only [needK, needK_add l n c i j]
    rw [show n - 1 - (i + j) = n - i - 1 - j by omega]
/-- From a place on stand these words. -/
def SegK (l : List Int) (o : Nat) (ws : List Int) : Prop := ∀ i, i < ws.length → nth l (o + i) = nth ws i
theorem nth_appl {a b : List Int} {i : Nat} (h : i < a.length) : nth (a ++ b) i = nth a i := by
  unfold nth; rw [List.getD_eq_getElem?_getD, List.getD_eq_getElem?_getD, List.getElem?_append_left h]
theorem nth_appr {a b : List Int} {i : Nat} : nth (a ++ b) (a.length + i) = nth b i := by
  unfold nth; rw [List.getD_eq_getElem?_getD, List.getD_eq_getElem?_getD, List.getElem?_append_right (by omega), Nat.add_sub_cancel_left]
theorem SegK.left {l : List Int} {o : Nat} {xs ys : List Int} (h : SegK l o (xs ++ ys)) : SegK l o xs := fun i hi => by
  rw [h i (by rw [List.length_append]; omega), nth_appl hi]
theorem SegK.right {l : List Int} {o : Nat} {xs ys : List Int} (h : SegK l o (xs ++ ys)) : SegK l (o + xs.length) ys := fun i hi => by
  rw [Nat.add_assoc, h (xs.length + i) (by rw [List.length_append]; omega), nth_appr]
theorem needK_seg (l : List Int) : ∀ (t : Kt), t.Good → ∀ (o : Nat), SegK l o t.words → ∀ c : Int, (∀ j, j < t.words.length → c ≤ needK l (o + t.words.length) c j) ∧ needK l (o + t.words.length) c t.words.length = c - 1
  | .leaf s, hg, o, hs, c => by
    have hg : 0 ≤ s ∧ s ≤ 18 := hg
    have h0 : nth l o = s := hs 0 (by simp [Kt.words])
    have ht : tkK s = 0 := by unfold tkK; rw [if_neg (by omega), if_neg (by omega)]
    simp only [Kt.words, List.length_cons, List.length_nil]
    refine ⟨fun j hj => ?_, ?_⟩
    · obtain rfl : j = 0 := by omega
      exact Int.le_refl _
    · simp only [needK, Nat.zero_add, Nat.add_sub_cancel, Nat.sub_zero, h0, ht]
      omega
  | .star a, hg, o, hs, c => by
    have ha := needK_seg l a hg o (SegK.left hs) c
    have hl : nth l (o + a.words.length) = 21 := SegK.right hs 0 (by simp)
    have e : (Kt.star a).words.length = 1 + a.words.length := by simp [Kt.words]; omega
    have h1 : needK l (o + (1 + a.words.length)) c 1 = c := by
      simp only [needK]
      rw [show o + (1 + a.words.length) - 1 - 0 = o + a.words.length by omega, hl]
      show c - 1 + 1 = c
      omega
    rw [e]
    refine ⟨fun j hj => ?_, ?_⟩
    · cases j with
      | zero => exact Int.le_refl _
      | succ j =>
        rw [Nat.add_comm j 1, needK_add, h1, show o + (1 + a.words.length) - 1 = o + a.words.length by omega]
        exact ha.1 j (by omega)
    · rw [needK_add, h1, show o + (1 + a.words.length) - 1 = o + a.words.length by omega]
      exact ha.2
  | .two s a b, hg, o, hs, c => by
    obtain ⟨h2, ga, gb⟩ := hg
    have hab : SegK l o (a.words ++ b.words) := SegK.left hs
    have ha := needK_seg l a ga o (SegK.left hab) c
    have hb := needK_seg l b gb (o + a.words.length) (SegK.right hab) (c + 1)
    have hl : nth l (o + (a.words ++ b.words).length) = s := SegK.right hs 0 (by simp)
    rw [List.length_append] at hl
    have e : (Kt.two s a b).words.length = 1 + (b.words.length + a.words.length) := by simp [Kt.words]; omega
    have h1 : needK l (o + (1 + (b.words.length + a.words.length))) c 1 = c + 1 := by
      simp only [needK]
      rw [show o + (1 + (b.words.length + a.words.length)) - 1 - 0 = o + (a.words.length + b.words.length) by omega, hl]
      have : tkK s = 2 := by unfold tkK; rw [if_pos h2]
      omega
    have h3 : o + (1 + (b.words.length + a.words.length)) - 1 = o + a.words.length + b.words.length := by omega
    have h4 : o + a.words.length + b.words.length - b.words.length = o + a.words.length := by omega
    rw [e]
    refine ⟨fun j hj => ?_, ?_⟩
    · cases j with
      | zero => exact Int.le_refl _
      | succ j =>
        rw [Nat.add_comm j 1, needK_add, h1, h3]
        by_cases hj2 : j < b.words.length
        · have := hb.1 j hj2
          omega
        · obtain ⟨i, rfl⟩ : ∃ i, j = b.words.length + i := ⟨j - b.words.length, by omega⟩
          rw [needK_add, hb.2, h4, show c + 1 - 1 = c by omega]
          exact ha.1 i (by omega)
    · rw [needK_add, h1, h3, needK_add, hb.2, h4, show c + 1 - 1 = c by omega]
      exact ha.2
theorem needK_le (l : List Int) (n : Nat) (c : Int) (hc : 0 ≤ c) : ∀ j : Nat, -(j : Int) ≤ needK l n c j ∧ needK l n c j ≤ c + j
  | 0 => ⟨by simp only [needK]; omega, by simp only [needK]; omega⟩
  | j + 1 => by
    have := needK_le l n c hc j
    have h2 := tkK_range (nth l (n - 1 - j))
    simp only [needK]
    omega
end Go.Kt
