/- The map of the tests' names, and the texts of tests: contracts. -/
import Derived.Test.YtcjnihhinnedkaaDoorRows
import Derived.Test.YtcjnihhinnedkaaDoorKa
import Derived.Maps.StringElems
import Derived.WalkLawsBesides
namespace Go.Kt
/-- A test's text, as far as its first k atoms. -/
def digS (t : Nat) : Nat → ByteArray
  | 0 => ⟨#[91]⟩
  | k + 1 => if t.testBit k then digS t k ++ ⟨#[UInt8.ofNat (48 + k)]⟩ else digS t k
def nameS (t : Nat) : ByteArray := if t = 0 then ⟨#[48]⟩ else if t = 15 then ⟨#[49]⟩ else if t = 10 then ⟨#[112]⟩ else if t = 12 then ⟨#[113]⟩ else if t = 5 then ⟨#[33, 112]⟩ else if t = 3 then ⟨#[33, 113]⟩ else ⟨#[]⟩
def namedB (t : Nat) : Bool := t == 0 || t == 15 || t == 10 || t == 12 || t == 5 || t == 3
/-- A test's text. -/
def testS (t : Nat) : ByteArray := if namedB t then nameS t else digS t 4 ++ ⟨#[93]⟩
theorem digS_size (t : Nat) : ∀ k, (digS t k).size ≤ k + 1
  | 0 => Nat.le_refl _
  | k + 1 => by
    have h := digS_size t k
    simp only [digS]
    split
    · rw [ByteArray.size_append]; show _ + 1 ≤ _; omega
    · omega
theorem testS_size (t : Nat) : (testS t).size ≤ 6 := by
  unfold testS
  split
  · unfold nameS
    repeat' split
    all_goals decide
  · have := digS_size t 4
    rw [ByteArray.size_append]; show _ + 1 ≤ _; omega
end Go.Kt
namespace Go.Proofs.YtcjnihhinnedkaaDoor
set_option linter.unusedVariables false
open Go.RowKit Go.Kt

/-- The map of names, as the program laid it. -/
def NamesW (w : World) : Prop := ∃ b n, w.cell? ⟨0, 0, none⟩ = some (.map (some b)) ∧ w.ownsMap Tryd.prog 3 (plainElem Tryd.prog 9) b n (Rows.laid_loop_example_kleenetests_impl_testNames : DataW Unit)
theorem NamesW.ext {w w' : World} (h : NamesW w) (e : Ext w w') : NamesW w' := by
  obtain ⟨b, n, h1, es, ck, hb, h2⟩ := h
  exact ⟨b, n, e.cell' h1 (lt_of_cell h1), es, ck, (e.block b (Array.getElem?_eq_some_iff.1 hb).1).trans hb, h2⟩
theorem look_has (t : Nat) (ht : t < 16) : Maps.has (Rows.laid_loop_example_kleenetests_impl_testNames : DataW Unit) (.int .i64 t) = namedB t := by
  rcases (show t = 0 ∨ t = 1 ∨ t = 2 ∨ t = 3 ∨ t = 4 ∨ t = 5 ∨ t = 6 ∨ t = 7 ∨ t = 8 ∨ t = 9 ∨ t = 10 ∨ t = 11 ∨ t = 12 ∨ t = 13 ∨ t = 14 ∨ t = 15 by omega) with rfl | rfl | rfl | rfl | rfl | rfl | rfl | rfl | rfl | rfl | rfl | rfl | rfl | rfl | rfl | rfl
  all_goals decide
theorem look_at (t : Nat) (ht : t < 16) : (Rows.laid_loop_example_kleenetests_impl_testNames : DataW Unit).atKey (.int .i64 t) (.lit (.string [])) = .lit (.string (nameS t).data.toList) := by
  rcases (show t = 0 ∨ t = 1 ∨ t = 2 ∨ t = 3 ∨ t = 4 ∨ t = 5 ∨ t = 6 ∨ t = 7 ∨ t = 8 ∨ t = 9 ∨ t = 10 ∨ t = 11 ∨ t = 12 ∨ t = 13 ∨ t = 14 ∨ t = 15 by omega) with rfl | rfl | rfl | rfl | rfl | rfl | rfl | rfl | rfl | rfl | rfl | rfl | rfl | rfl | rfl | rfl
  all_goals rfl
theorem names_look (t : Nat) (ht : t < 16) (w : World) (h : NamesW w) :
    ∃ b, w.cell? ⟨0, 0, none⟩ = some (.map (some b)) ∧ (Instr.lookup 69 (.map (some b)) (.int .i64 t) true).run Tryd.prog w = .ok (.tuple #[.string (nameS t), .bool (namedB t)]) w := by
  obtain ⟨b, n, h1, h2⟩ := h
  have hw : (Lit.int .i64 (t : Int)).wf = true := by
    rcases (show t = 0 ∨ t = 1 ∨ t = 2 ∨ t = 3 ∨ t = 4 ∨ t = 5 ∨ t = 6 ∨ t = 7 ∨ t = 8 ∨ t = 9 ∨ t = 10 ∨ t = 11 ∨ t = 12 ∨ t = 13 ∨ t = 14 ∨ t = 15 by omega) with rfl | rfl | rfl | rfl | rfl | rfl | rfl | rfl | rfl | rfl | rfl | rfl | rfl | rfl | rfl | rfl
    all_goals decide
  obtain ⟨v, ps, hr, hv⟩ := h2.look_ok (Maps.int_keyed Tryd.underlying3) Tryd.underlying69 (z := .string ByteArray.empty) (by kernel_rfl) (plainElem_string Tryd.underlying9 (by decide)) (Maps.keyOf_int_mk Tryd.underlying3 hw)
  obtain ⟨s, rfl, hz, -⟩ := plainElem_string_inv Tryd.underlying9 hv
  simp only [Prod.mk.injEq] at hz
  refine ⟨b, h1, ?_⟩
  have h3 := look_at t ht
  have h4 : s = nameS t := by
    have h5 : (DataW.lit (.string (nameS t).data.toList) : DataW Unit) = .lit (.string s.data.toList) := h3.symm.trans hz.1
    simp only [DataW.lit.injEq, Lit.string.injEq] at h5
    exact ByteArray.ext (Array.toList_inj.1 h5.symm)
  rw [hr, look_has t ht, h4]
end Go.Proofs.YtcjnihhinnedkaaDoor
