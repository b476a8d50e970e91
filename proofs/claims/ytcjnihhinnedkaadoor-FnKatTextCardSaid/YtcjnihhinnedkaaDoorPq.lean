/- Plain law: the expression of a program; the steps of a tree are valid if they are not too many. No program in sight. -/
import Derived.Test.YtcjnihhinnedkaaDoorKg
import Derived.Test.YtcjnihhinnedkaaDoorPt
namespace Go.Kt
set_option linter.unusedVariables false

theorem mnyK_seg (l : List Int) : ∀ (t : Kt), t.Good → ∀ (o m : Nat), SegK l o t.words → mnyK l o = some m → mnyK l (o + t.words.length) = some (m + 1)
  | .leaf s, hg, o, m, hs, hm => by
    have hg : 0 ≤ s ∧ s ≤ 18 := hg
    have h0 : nth l o = s := hs 0 (by simp [Kt.words])
    have ht : tkK s = 0 := by unfold tkK; rw [if_neg (by omega), if_neg (by omega)]
    have := mnyK_good hm (by rw [h0]; unfold BadK; rw [ht]; omega)
    rw [h0, ht] at this
    simpa [Kt.words] using this
  | .star a, hg, o, m, hs, hm => by
    have ha := mnyK_seg l a hg o m (SegK.left hs) hm
    have hl : nth l (o + a.words.length) = 21 := SegK.right hs 0 (by simp)
    have ht : tkK 21 = 1 := rfl
    have := mnyK_good ha (by rw [hl]; unfold BadK; rw [ht]; omega)
    rw [hl, ht] at this
    have e : o + (Kt.star a).words.length = o + a.words.length + 1 := by simp [Kt.words]; omega
    rw [e, this]
    congr 1
  | .two s a b, hg, o, m, hs, hm => by
    obtain ⟨h2, ga, gb⟩ := hg
    have hab : SegK l o (a.words ++ b.words) := SegK.left hs
    have ha := mnyK_seg l a ga o m (SegK.left hab) hm
    have hb := mnyK_seg l b gb _ _ (SegK.right hab) ha
    have hl : nth l (o + (a.words ++ b.words).length) = s := SegK.right hs 0 (by simp)
    rw [List.length_append, ← Nat.add_assoc] at hl
    have ht : tkK s = 2 := by unfold tkK; rw [if_pos h2]
    have := mnyK_good hb (by rw [hl]; unfold BadK; rw [ht]; omega)
    rw [hl, ht] at this
    have e : o + (Kt.two s a b).words.length = o + a.words.length + b.words.length + 1 := by simp [Kt.words]; omega
    rw [e, this]
    congr 1
theorem SegK.self (l : List Int) : SegK l 0 l := fun i hi => by rw [Nat.zero_add]
theorem kvB_words {t : Kt} (h : t.Good) : kvB t.words = decide (t.words.length ≤ 40) := by
  have h1 := mnyK_seg t.words t h 0 0 (SegK.self _) rfl
  have hp := t.words_pos
  rw [Nat.zero_add] at h1
  unfold kvB
  rw [h1]
  by_cases hl : t.words.length ≤ 40
  · rw [decide_eq_true hl, decide_eq_true ⟨hp, hl⟩]; rfl
  · rw [decide_eq_false hl, decide_eq_false (fun h => hl h.2)]; rfl
theorem kvB_words_true {t : Kt} (h : t.Good) (hl : t.words.length ≤ 40) : kvB t.words = true := by rw [kvB_words h, decide_eq_true hl]
theorem kvB_words_false {t : Kt} (h : t.Good) (hl : ¬ t.words.length ≤ 40) : kvB t.words = false := by rw [kvB_words h, decide_eq_false hl]

/-- The expression of a program. -/
def Pt.kat : Pt → Kt
  | .one w => .leaf w
  | .seq a b => .two 19 a.kat b.kat
  | .ifs t a b => .two 20 (.two 19 (.leaf t) a.kat) (.two 19 (.leaf (15 - t)) b.kat)
  | .loop t a => .two 19 (.star (.two 19 (.leaf t) a.kat)) (.leaf (15 - t))
theorem Pt.kat_good : ∀ (t : Pt), t.Good → t.kat.Good
  | .one w, h => by
    have h : w = 15 ∨ (16 ≤ w ∧ w ≤ 18) := h
    show 0 ≤ w ∧ w ≤ 18
    omega
  | .seq a b, h => ⟨.inl rfl, a.kat_good h.1, b.kat_good h.2⟩
  | .ifs t a b, h => ⟨.inr rfl, ⟨.inl rfl, (by show 0 ≤ t ∧ t ≤ 18; have := h.1; omega), a.kat_good h.2.1⟩, .inl rfl, (by show 0 ≤ 15 - t ∧ 15 - t ≤ 18; have := h.1; omega), b.kat_good h.2.2⟩
  | .loop t a, h => ⟨.inl rfl, ⟨.inl rfl, (by show 0 ≤ t ∧ t ≤ 18; have := h.1; omega), a.kat_good h.2⟩, by show 0 ≤ 15 - t ∧ 15 - t ≤ 18; have := h.1; omega⟩
theorem Pt.kat_le : ∀ (t : Pt), t.kat.words.length ≤ 5 * t.words.length
  | .one w => by simp [Pt.kat, Kt.words, Pt.words]
  | .seq a b => by have := a.kat_le; have := b.kat_le; simp only [Pt.kat, Kt.words, Pt.words, List.length_append, List.length_cons, List.length_nil]; omega
  | .ifs t a b => by have := a.kat_le; have := b.kat_le; simp only [Pt.kat, Kt.words, Pt.words, List.length_append, List.length_cons, List.length_nil]; omega
  | .loop t a => by have := a.kat_le; simp only [Pt.kat, Kt.words, Pt.words, List.length_append, List.length_cons, List.length_nil]; omega
end Go.Kt
