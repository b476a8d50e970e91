/- Merged texts: contracts and plain lemmas (Pt). -/
import Derived.Test.YtlaamecfknkmlaaDoorMh26
/- Plain law: programs as trees, and the words of a tree. No program in sight. -/
namespace Go.Kt
set_option linter.unusedVariables false

/-- A program as a tree. -/
inductive Pt where
  | one (w : Int)
  | seq (a b : Pt)
  | ifs (t : Int) (a b : Pt)
  | loop (t : Int) (a : Pt)
/-- Its words. -/
def Pt.words : Pt → List Int
  | .one w => [w]
  | .seq a b => a.words ++ b.words ++ [30]
  | .ifs t a b => a.words ++ b.words ++ [100 + t]
  | .loop t a => a.words ++ [200 + t]
/-- Its words are in their bounds. -/
def Pt.Good : Pt → Prop
  | .one w => w = 15 ∨ (16 ≤ w ∧ w ≤ 18)
  | .seq a b => a.Good ∧ b.Good
  | .ifs t a b => (0 ≤ t ∧ t ≤ 15) ∧ a.Good ∧ b.Good
  | .loop t a => (0 ≤ t ∧ t ≤ 15) ∧ a.Good
/-- The words of a stack of trees. -/
def allW : List Pt → List Int
  | [] => []
  | t :: ts => t.words ++ allW ts
theorem allW_append : ∀ (xs ys : List Pt), allW (xs ++ ys) = allW xs ++ allW ys
  | [], ys => rfl
  | x :: xs, ys => by simp only [List.cons_append, allW, allW_append xs ys, List.append_assoc]
theorem take_nth {l : List Int} {k : Nat} (h : k < l.length) : l.take (k + 1) = l.take k ++ [nth l k] := by
  have e : nth l k = l[k] := by unfold nth; rw [List.getD_eq_getElem?_getD, List.getElem?_eq_getElem h]; rfl
  rw [List.take_add_one, List.getElem?_eq_getElem h, e]
  rfl
/-- The stack behind the first k words. -/
def Stk (l : List Int) (k : Nat) (ts : List Pt) : Prop := (∀ t, t ∈ ts → t.Good) ∧ allW ts = l.take k ∧ mny l k = some ts.length
theorem Stk.start (l : List Int) : Stk l 0 [] := ⟨(fun t h => by cases h), rfl, rfl⟩
theorem Stk.push {l : List Int} {k : Nat} {us ts : List Pt} {t : Pt} (h : Stk l k (us ++ ts)) (hk : k < l.length) (hg : (∀ t, t ∈ ts → t.Good) → t.Good) (hw : t.words = allW ts ++ [nth l k])
    (ht : tk (nth l k) = ts.length) : Stk l (k + 1) (us ++ [t]) := by
  obtain ⟨h1, h2, h3⟩ := h
  refine ⟨fun x hx => ?_, ?_, ?_⟩
  · rcases List.mem_append.1 hx with hx | hx
    · exact h1 x (List.mem_append.2 (.inl hx))
    · simp at hx; subst hx
      exact hg fun t ht => h1 t (List.mem_append.2 (.inr ht))
  · rw [take_nth hk, ← h2, allW_append, allW_append]
    simp only [allW, List.append_nil, hw, List.append_assoc]
  · rw [mny_good h3 (by rw [ht, List.length_append]; omega), ht]
    simp
theorem Stk.one {l : List Int} {k : Nat} {ts : List Pt} (h : Stk l k ts) (hk : k < l.length) (hb : nth l k = 15 ∨ (16 ≤ nth l k ∧ nth l k ≤ 18)) : Stk l (k + 1) (ts ++ [.one (nth l k)]) := by
  refine Stk.push (ts := []) (by rw [List.append_nil]; exact h) hk (fun _ => hb) rfl ?_
  unfold tk; rw [if_pos hb]; rfl
theorem Stk.seq {l : List Int} {k : Nat} {us : List Pt} {a b : Pt} (h : Stk l k (us ++ [a, b])) (hk : k < l.length) (hb : nth l k = 30) : Stk l (k + 1) (us ++ [.seq a b]) := by
  refine Stk.push h hk (fun hg => ⟨hg a (by simp), hg b (by simp)⟩) ?_ ?_
  · simp [Pt.words, allW, hb]
  · unfold tk; rw [if_neg (by omega), if_pos (.inl hb)]; rfl
theorem Stk.ifs {l : List Int} {k : Nat} {us : List Pt} {a b : Pt} (h : Stk l k (us ++ [a, b])) (hk : k < l.length) (hb : 100 ≤ nth l k ∧ nth l k ≤ 115) : Stk l (k + 1) (us ++ [.ifs (nth l k - 100) a b]) := by
  refine Stk.push h hk (fun hg => ⟨⟨by omega, by omega⟩, hg a (by simp), hg b (by simp)⟩) ?_ ?_
  · have : 100 + (nth l k - 100) = nth l k := by omega
    simp [Pt.words, allW, this]
  · unfold tk; rw [if_neg (by omega), if_pos (.inr hb)]; rfl
theorem Stk.loop {l : List Int} {k : Nat} {us : List Pt} {a : Pt} (h : Stk l k (us ++ [a])) (hk : k < l.length) (hb : 200 ≤ nth l k ∧ nth l k ≤ 215) : Stk l (k + 1) (us ++ [.loop (nth l k - 200) a]) := by
  refine Stk.push h hk (fun hg => ⟨⟨by omega, by omega⟩, hg a (by simp)⟩) ?_ ?_
  · have : 200 + (nth l k - 200) = nth l k := by omega
    simp [Pt.words, allW, this]
  · unfold tk; rw [if_neg (by omega), if_neg (by omega), if_pos hb]; rfl
theorem Stk.bad {l : List Int} {k : Nat} {ts : List Pt} (h : Stk l k ts) (hk : k < l.length) (hb : tk (nth l k) < 0 ∨ (ts.length : Int) < tk (nth l k)) : pvB l = false :=
  pvB_none (k := k + 1) (by omega) (mny_bad h.2.2 hb)
/-- The tree of the words, if they are a program. -/
theorem Stk.done {l : List Int} {t : Pt} (h : Stk l l.length [t]) (hn : 1 ≤ l.length ∧ l.length ≤ 16) : pvB l = true ∧ t.Good ∧ t.words = l := by
  obtain ⟨h1, h2, h3⟩ := h
  refine ⟨by rw [pvB_end hn h3]; rfl, h1 t (by simp), ?_⟩
  simpa [allW] using h2
theorem Stk.not {l : List Int} {ts : List Pt} (h : Stk l l.length ts) (hn : 1 ≤ l.length ∧ l.length ≤ 16) (hts : ts.length ≠ 1) : pvB l = false := by
  rw [pvB_end hn h.2.2]; simp [hts]
theorem split2 {α : Type} {ts : List α} (h : 2 ≤ ts.length) : ∃ us a b, ts = us ++ [a, b] := by
  refine ⟨ts.take (ts.length - 2), ts[ts.length - 2], ts[ts.length - 1], ?_⟩
  have h1 : ts.drop (ts.length - 2) = [ts[ts.length - 2], ts[ts.length - 1]] := by
    rw [List.drop_eq_getElem_cons (by omega), show ts.length - 2 + 1 = ts.length - 1 by omega, List.drop_eq_getElem_cons (by omega), show ts.length - 1 + 1 = ts.length by omega, List.drop_length]
  rw [← h1, List.take_append_drop]
theorem split1 {α : Type} {ts : List α} (h : 1 ≤ ts.length) : ∃ us a, ts = us ++ [a] := by
  refine ⟨ts.take (ts.length - 1), ts[ts.length - 1], ?_⟩
  have h1 : ts.drop (ts.length - 1) = [ts[ts.length - 1]] := by
    rw [List.drop_eq_getElem_cons (by omega), show ts.length - 1 + 1 = ts.length by omega, List.drop_length]
  rw [← h1, List.take_append_drop]
end Go.Kt
