/- Merged texts: contracts and plain lemmas (Ph). -/
import Derived.Test.YtlaamecfknkmlaaDoorMh28
import Derived.Test.YtlaamecfknkmlaaDoorMh14
/- Plain law: where the second program of two begins; the code of a program. No program in sight. -/
namespace Go.Kt
set_option linter.unusedVariables false

/-- What is wanted behind the last j words: reading backwards, from need on. -/
def needP (l : List Int) (n : Nat) (c : Int) : Nat → Int
  | 0 => c
  | j + 1 => needP l n c j - 1 + tk (nth l (n - 1 - j))
theorem needP_add (l : List Int) (n : Nat) (c : Int) (i : Nat) : ∀ j, needP l n c (i + j) = needP l (n - i) (needP l n c i) j
  | 0 => rfl
  | j + 1 => by
    rw [← Nat.add_assoc]
    simp only [needP, needP_add l n c i j]
    rw [show n - 1 - (i + j) = n - i - 1 - j by omega]
/-- From a place on stand these words. -/
def SegP (l : List Int) (o : Nat) (ws : List Int) : Prop := ∀ i, i < ws.length → nth l (o + i) = nth ws i
theorem nth_appl' {a b : List Int} {i : Nat} (h : i < a.length) : nth (a ++ b) i = nth a i := by
  unfold nth; rw [List.getD_eq_getElem?_getD, List.getD_eq_getElem?_getD, List.getElem?_append_left h]
theorem nth_appr' {a b : List Int} {i : Nat} : nth (a ++ b) (a.length + i) = nth b i := by
  unfold nth; rw [List.getD_eq_getElem?_getD, List.getD_eq_getElem?_getD, List.getElem?_append_right (by omega), Nat.add_sub_cancel_left]
theorem SegP.left {l : List Int} {o : Nat} {xs ys : List Int} (h : SegP l o (xs ++ ys)) : SegP l o xs := fun i hi => by
  rw [h i (by rw [List.length_append]; omega), nth_appl' hi]
theorem SegP.right {l : List Int} {o : Nat} {xs ys : List Int} (h : SegP l o (xs ++ ys)) : SegP l (o + xs.length) ys := fun i hi => by
  rw [Nat.add_assoc, h (xs.length + i) (by rw [List.length_append]; omega), nth_appr']
theorem Pt.words_pos (t : Pt) : 1 ≤ t.words.length := by cases t <;> simp [Pt.words] <;> omega
theorem tk_two {s : Int} (h : s = 30 ∨ (100 ≤ s ∧ s ≤ 115)) : tk s = 2 := by unfold tk; rw [if_neg (by omega), if_pos h]
theorem tk_one {s : Int} (h : 200 ≤ s ∧ s ≤ 215) : tk s = 1 := by unfold tk; rw [if_neg (by omega), if_neg (by omega), if_pos h]
theorem tk_zero {s : Int} (h : s = 15 ∨ (16 ≤ s ∧ s ≤ 18)) : tk s = 0 := by unfold tk; rw [if_pos h]
/-- The claim of needP_seg at one tree. -/
def NeedAt (l : List Int) (ws : List Int) : Prop := ∀ (o : Nat), SegP l o ws → ∀ c : Int, (∀ j, j < ws.length → c ≤ needP l (o + ws.length) c j) ∧ needP l (o + ws.length) c ws.length = c - 1
theorem NeedAt.two {l : List Int} {xs ys : List Int} {s : Int} (ha : NeedAt l xs) (hb : NeedAt l ys) (h2 : s = 30 ∨ (100 ≤ s ∧ s ≤ 115)) : NeedAt l (xs ++ ys ++ [s]) := by
  intro o hs c
  have hab : SegP l o (xs ++ ys) := SegP.left hs
  have ha := ha o (SegP.left hab) c
  have hb := hb (o + xs.length) (SegP.right hab) (c + 1)
  have hl : nth l (o + (xs ++ ys).length) = s := SegP.right hs 0 (by simp)
  rw [List.length_append] at hl
  have e : (xs ++ ys ++ [s]).length = 1 + (ys.length + xs.length) := by simp; omega
  have h1 : needP l (o + (1 + (ys.length + xs.length))) c 1 = c + 1 := by
    simp only [needP]
    rw [show o + (1 + (ys.length + xs.length)) - 1 - 0 = o + (xs.length + ys.length) by omega, hl, tk_two h2]
    omega
  have h3 : o + (1 + (ys.length + xs.length)) - 1 = o + xs.length + ys.length := by omega
  have h4 : o + xs.length + ys.length - ys.length = o + xs.length := by omega
  rw [e]
  refine ⟨fun j hj => ?_, ?_⟩
  · cases j with
    | zero => exact Int.le_refl _
    | succ j =>
      rw [Nat.add_comm j 1, needP_add, h1, h3]
      by_cases hj2 : j < ys.length
      · have := hb.1 j hj2
        omega
      · obtain ⟨i, rfl⟩ : ∃ i, j = ys.length + i := ⟨j - ys.length, by omega⟩
        rw [needP_add, hb.2, h4, show c + 1 - 1 = c by omega]
        exact ha.1 i (by omega)
  · rw [needP_add, h1, h3, needP_add, hb.2, h4, show c + 1 - 1 = c by omega]
    exact ha.2
theorem needP_seg (l : List Int) : ∀ (t : Pt), t.Good → NeedAt l t.words
  | .one s, hg => by
    intro o hs c
    have h0 : nth l o = s := hs 0 (by simp [Pt.words])
    have ht : tk s = 0 := tk_zero hg
    simp only [Pt.words, List.length_cons, List.length_nil]
    refine ⟨fun j hj => ?_, ?_⟩
    · obtain rfl : j = 0 := by omega
      exact Int.le_refl _
    · simp only [needP, Nat.zero_add, Nat.add_sub_cancel, Nat.sub_zero, h0, ht]
      omega
  | .loop t a, hg => by
    intro o hs c
    obtain ⟨h0, hg⟩ := hg
    have ha := needP_seg l a hg o (SegP.left hs) c
    have hl : nth l (o + a.words.length) = 200 + t := SegP.right hs 0 (by simp)
    have e : (Pt.loop t a).words.length = 1 + a.words.length := by simp [Pt.words]; omega
    have h1 : needP l (o + (1 + a.words.length)) c 1 = c := by
      simp only [needP]
      rw [show o + (1 + a.words.length) - 1 - 0 = o + a.words.length by omega, hl, tk_one (by omega)]
      omega
    rw [e]
    refine ⟨fun j hj => ?_, ?_⟩
    · cases j with
      | zero => exact Int.le_refl _
      | succ j =>
        rw [Nat.add_comm j 1, needP_add, h1, show o + (1 + a.words.length) - 1 = o + a.words.length by omega]
        exact ha.1 j (by omega)
    · rw [needP_add, h1, show o + (1 + a.words.length) - 1 = o + a.words.length by omega]
      exact ha.2
  | .seq a b, hg => NeedAt.two (needP_seg l a hg.1) (needP_seg l b hg.2) (.inl rfl)
  | .ifs t a b, hg => NeedAt.two (needP_seg l a hg.2.1) (needP_seg l b hg.2.2) (.inr (by have := hg.1; omega))
theorem tk_ge (x : Int) : -1 ≤ tk x ∧ tk x ≤ 2 := by
  unfold tk
  split
  · omega
  · split
    · omega
    · split <;> omega
theorem needP_le (l : List Int) (n : Nat) (c : Int) (hc : 0 ≤ c) : ∀ j : Nat, -(2 * j : Int) ≤ needP l n c j ∧ needP l n c j ≤ c + j
  | 0 => ⟨by simp only [needP]; omega, by simp only [needP]; omega⟩
  | j + 1 => by
    have := needP_le l n c hc j
    have h2 := tk_ge (nth l (n - 1 - j))
    simp only [needP]
    omega

/-- How many instructions. -/
def Pt.many : Pt → Nat
  | .one w => if w = 15 then 0 else 1
  | .seq a b => a.many + b.many
  | .ifs _ a b => a.many + b.many + 2
  | .loop _ a => a.many + 2
/-- The code, three numbers an instruction, from a place on. -/
def Pt.code : Pt → Nat → List Int
  | .one w, _ => if w = 15 then [] else [0, w, 0]
  | .seq a b, p => a.code p ++ b.code (p + a.many)
  | .ifs t a b, p => [1, t, ((p + a.many + 2 : Nat) : Int)] ++ a.code (p + 1) ++ [2, 0, ((p + a.many + 2 + b.many : Nat) : Int)] ++ b.code (p + a.many + 2)
  | .loop t a, p => [1, t, ((p + a.many + 2 : Nat) : Int)] ++ a.code (p + 1) ++ [2, 0, (p : Int)]
theorem Pt.code_length : ∀ (t : Pt) (p : Nat), (t.code p).length = t.many * 3
  | .one w, p => by unfold Pt.code Pt.many; split <;> rfl
  | .seq a b, p => by simp only [Pt.code, Pt.many, List.length_append, a.code_length, b.code_length]; omega
  | .ifs t a b, p => by simp only [Pt.code, Pt.many, List.length_append, a.code_length, b.code_length, List.length_cons, List.length_nil]; omega
  | .loop t a, p => by simp only [Pt.code, Pt.many, List.length_append, a.code_length, List.length_cons, List.length_nil]; omega
theorem Pt.many_le : ∀ (t : Pt), t.many ≤ 2 * t.words.length
  | .one w => by simp only [Pt.many, Pt.words, List.length_cons, List.length_nil]; split <;> omega
  | .seq a b => by have := a.many_le; have := b.many_le; simp only [Pt.many, Pt.words, List.length_append, List.length_cons, List.length_nil]; omega
  | .ifs t a b => by have := a.many_le; have := b.many_le; simp only [Pt.many, Pt.words, List.length_append, List.length_cons, List.length_nil]; omega
  | .loop t a => by have := a.many_le; simp only [Pt.many, Pt.words, List.length_append, List.length_cons, List.length_nil]; omega
/-- A valid program has a tree. -/
theorem pvB_tree {l : List Int} (h : pvB l = true) : ∃ t : Pt, t.Good ∧ t.words = l ∧ l.length ≤ 16 := by
  have hn : 1 ≤ l.length ∧ l.length ≤ 16 := by
    refine Decidable.byContradiction fun hn => ?_
    rw [pvB_out hn] at h; cases h
  have all : ∀ k, k ≤ l.length → ∃ ts, Stk l k ts := by
    intro k
    induction k with
    | zero => exact fun _ => ⟨[], Stk.start l⟩
    | succ k ih =>
      intro hk
      obtain ⟨ts, hs⟩ := ih (by omega)
      have hlt : k < l.length := by omega
      have nb : ¬ (tk (nth l k) < 0 ∨ (ts.length : Int) < tk (nth l k)) := fun hb => by
        rw [hs.bad hlt hb] at h; cases h
      by_cases c1 : nth l k = 15 ∨ (16 ≤ nth l k ∧ nth l k ≤ 18)
      · exact ⟨_, hs.one hlt c1⟩
      · by_cases c2 : nth l k = 30 ∨ (100 ≤ nth l k ∧ nth l k ≤ 115)
        · rw [tk_two c2] at nb
          obtain ⟨us, a, b, rfl⟩ := split2 (show 2 ≤ ts.length by omega)
          rcases c2 with c2 | c2
          · exact ⟨_, hs.seq hlt c2⟩
          · exact ⟨_, hs.ifs hlt c2⟩
        · by_cases c3 : 200 ≤ nth l k ∧ nth l k ≤ 215
          · rw [tk_one c3] at nb
            obtain ⟨us, a, rfl⟩ := split1 (show 1 ≤ ts.length by omega)
            exact ⟨_, hs.loop hlt c3⟩
          · have : tk (nth l k) = -1 := by unfold tk; rw [if_neg c1, if_neg c2, if_neg c3]
            omega
  obtain ⟨ts, hs⟩ := all l.length (Nat.le_refl _)
  have h1 : ts.length = 1 := Decidable.byContradiction fun hne => by rw [hs.not hn hne] at h; cases h
  obtain ⟨us, a, rfl⟩ := split1 (show 1 ≤ ts.length by omega)
  obtain rfl : us = [] := List.eq_nil_of_length_eq_zero (by simp only [List.length_append, List.length_cons, List.length_nil] at h1; omega)
  exact ⟨a, (hs.done hn).2.1, (hs.done hn).2.2, hn.2⟩
/-- The words tell the tree. -/
def stepP (x : Int) (st : List Pt) : List Pt :=
  if x = 15 ∨ (16 ≤ x ∧ x ≤ 18) then .one x :: st
  else if x = 30 then match st with
    | b :: a :: r => .seq a b :: r
    | r => r
  else if 100 ≤ x ∧ x ≤ 115 then match st with
    | b :: a :: r => .ifs (x - 100) a b :: r
    | r => r
  else match st with
    | a :: r => .loop (x - 200) a :: r
    | r => r
def runP : List Int → List Pt → List Pt
  | [], st => st
  | x :: xs, st => runP xs (stepP x st)
theorem runP_append : ∀ (xs ys : List Int) (st : List Pt), runP (xs ++ ys) st = runP ys (runP xs st)
  | [], ys, st => rfl
  | x :: xs, ys, st => by simp only [List.cons_append, runP, runP_append xs ys]
theorem runP_words : ∀ (t : Pt), t.Good → ∀ st, runP t.words st = t :: st
  | .one s, h, st => by
    have : s = 15 ∨ (16 ≤ s ∧ s ≤ 18) := h
    simp only [Pt.words, runP, stepP, if_pos this]
  | .loop t a, h, st => by
    have ha := runP_words a h.2 st
    have h1 := h.1
    simp only [Pt.words, runP_append, ha, runP, stepP, if_neg (show ¬ (200 + t = 15 ∨ (16 ≤ 200 + t ∧ 200 + t ≤ 18)) by omega), if_neg (show ¬ 200 + t = 30 by omega), if_neg (show ¬ (100 ≤ 200 + t ∧ 200 + t ≤ 115) by omega)]
    rw [show 200 + t - 200 = t by omega]
  | .seq a b, h, st => by
    have ha := runP_words a h.1 st
    have hb := runP_words b h.2 (a :: st)
    simp only [Pt.words, runP_append, ha, hb, runP, stepP]
    rw [if_neg (by omega), if_pos True.intro]
  | .ifs t a b, h, st => by
    have ha := runP_words a h.2.1 st
    have hb := runP_words b h.2.2 (a :: st)
    have h1 := h.1
    simp only [Pt.words, runP_append, ha, hb, runP, stepP, if_neg (show ¬ (100 + t = 15 ∨ (16 ≤ 100 + t ∧ 100 + t ≤ 18)) by omega), if_neg (show ¬ 100 + t = 30 by omega), if_pos (show (100 ≤ 100 + t ∧ 100 + t ≤ 115) by omega)]
    rw [show 100 + t - 100 = t by omega]
theorem Pt.words_inj {t u : Pt} (ht : t.Good) (hu : u.Good) (h : t.words = u.words) : t = u := by
  have h1 := runP_words t ht []
  have h2 := runP_words u hu []
  rw [h, h2] at h1
  injection h1 with h1
  exact h1.symm
end Go.Kt
