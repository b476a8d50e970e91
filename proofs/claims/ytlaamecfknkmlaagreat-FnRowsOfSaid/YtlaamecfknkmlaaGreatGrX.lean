/- Merged texts: contracts and plain lemmas (X). -/
import Derived.Test.YtlaamecfknkmlaaGreatGrV
/- Contracts: the draws of models, tests and states. -/
namespace Go.Proofs.YtlaamecfknkmlaaGreat
set_option linter.unusedVariables false
open Go.RowKit Go.Kt

/-- What drawing a model from bytes comes to. -/
def DrewMo (w : World) (e : Ending) (w' : World) : Prop :=
  ∃ (st : Nat) (p q : Int) (a : Option Addr) (cap : Nat) (ll : List (List Int)), e = .returned (modelV st p q a ll.length cap) ∧ st ≤ 5 ∧ RowsAt w' a ll ∧ ll.length ≤ cap ∧ ll.length ≤ 3 ∧ (∀ i, i < ll.length → (rowI ll i).length ≤ 8) ∧ Ext w w'
/-- The same, and a number more. -/
def DrewMn (w : World) (e : Ending) (w' : World) : Prop :=
  ∃ (st : Nat) (p q : Int) (a : Option Addr) (cap : Nat) (ll : List (List Int)) (t : Int), e = .returned (.tuple #[modelV st p q a ll.length cap, .int .i64 t]) ∧ st ≤ 5 ∧ RowsAt w' a ll ∧ ll.length ≤ cap ∧ ll.length ≤ 3 ∧ (∀ i, i < ll.length → (rowI ll i).length ≤ 8) ∧ Ext w w'
theorem drawn_rows {w w2 w' : World} {a : Option Addr} {ll : List (List Int)} (hx : Ext w w2) (hr : RowsFrom w2 (w.heap.size + 1) a ll) (t : Touched w2 w' w.heap.size (w.heap.size + 1)) : RowsAt w' a ll ∧ Ext w w' :=
  ⟨(hr.untouched t (Nat.le_refl _)).rows, t.ext hx (Nat.le_refl _)⟩
theorem box_zero (w : World) (t : TypeId) : BoxM (w.alloc (.cells #[.int .i64 0, .int .i64 0, .int .i64 0, .slice none 0 0] t)) w.heap.size 0 0 0 (.slice none 0 0) := by simp [BoxM, go_sem]
theorem box_made (w : World) (t : TypeId) (st p q : Int) (v : Value) : BoxM (w.alloc (.cells #[.int .i64 st, .int .i64 p, .int .i64 q, v] t)) w.heap.size st p q v := by simp [BoxM, go_sem]
theorem RowsAt.tail' {w : World} {g o : Nat} {ll : List (List Int)} (h : RowsAt w (some ⟨g, o, none⟩) ll) : RowsAt w (some ⟨g, o + 1, none⟩) (ll.drop 1) := by
  obtain ⟨b, off, h1, h2⟩ := h
  by_cases hl : 0 < ll.length
  · obtain ⟨he, hb⟩ := h1 hl
    obtain ⟨rfl, rfl⟩ : g = b ∧ o = off := by simpa using he
    refine ⟨g, o + 1, fun _ => ⟨rfl, hb⟩, fun i hi => ?_⟩
    have hi2 : i + 1 < ll.length := by simp at hi; omega
    obtain ⟨ai, ci, e1, e2⟩ := h2 (i + 1) hi2
    have e : rowI (ll.drop 1) i = rowI ll (i + 1) := by
      rw [rowI_getElem _ _ hi, rowI_getElem _ _ hi2]; simp
    rw [e]
    exact ⟨ai, ci, by rw [show o + 1 + i = o + (i + 1) by omega]; exact e1, e2⟩
  · exact ⟨0, 0, fun h0 => absurd h0 (by simp; omega), fun i hi => absurd hi (by simp; omega)⟩
theorem thaw_zero (w : World) (xs : Array Value) (t : TypeId) : Thawed (w.alloc (.cells xs t)) w.heap.size := ⟨by simp, fun o => by simp [go_sem]⟩
end Go.Proofs.YtlaamecfknkmlaaGreat
