/- Merged texts: contracts and plain lemmas (Rx). -/
import Derived.Test.YtlaamecfknkmlaaDoorMg20
import Derived.WalkKit
import Derived.Lib.Strings
import Derived.Shelf.Strings.Search1
/- Contracts: a test's reader; a text's first byte; where a byte stands first. -/
namespace Go.Kt
/-- The test that a word tells, or -1. -/
def rtI (o : Option Nat) : Int := match o with | some t => (t : Int) | none => -1
theorem rTest_at {w : List UInt8} {k : Nat} (hk : k < 16) (h1 : bs (testS k) = w) (h2 : ∀ j, j < k → bs (testS j) ≠ w) : rTest w = some k := by
  unfold rTest
  rw [List.find?_eq_some_iff_append]
  refine ⟨by simpa [bs] using h1, List.range k, (List.range' (k + 1) (15 - k)), ?_, fun a ha => ?_⟩
  · rw [List.range_eq_range', List.range_eq_range', show 16 = k + (1 + (15 - k)) by omega, ← List.range'_append_1, Nat.add_comm 1]
    congr 1
    rw [Nat.zero_add, List.range'_succ]
  · have := h2 a (by simpa using ha)
    simpa [bs] using this
theorem rTest_no {w : List UInt8} (h2 : ∀ j, j < 16 → bs (testS j) ≠ w) : rTest w = none := by
  unfold rTest
  rw [List.find?_eq_none]
  intro a ha
  have := h2 a (by simpa using ha)
  simpa [bs] using this
end Go.Kt
namespace Go.Proofs.YtlaamecfknkmlaaDoor
set_option linter.unusedVariables false
open Go.RowKit Go.Kt

/-- A test, and whether there is one. -/
def RetT2 (w : World) (o : Option Nat) (e : Ending) (w' : World) : Prop := e = .returned (.tuple #[.int .i64 (rtI o), .bool o.isSome]) ∧ Ext w w'
theorem readTest_c (s : ByteArray) (w : World) (hn : NamesW w) :
    Calls Tryd.prog 81 #[.string s] w (RetT2 w (rTest (bs s))) := by
  have HN := Lib.hid hn
  clear hn
  go_enter Tryd.func81, Tryd.ntmps81
  go_wp2
  go_loopw [5] (fun i wr => Hid (∃ k : Nat, k ≤ 16 ∧ i = .int .i64 k ∧ (∀ j, j < k → bs (testS j) ≠ bs s) ∧ Ext w wr)) (fun i _ => 16 - (intOf i).toNat)
  case atStart => exact Lib.hid ⟨0, by omega, rfl, fun j hj => absurd hj (Nat.not_lt_zero _), Ext.refl _⟩
  case round =>
    obtain ⟨k, hk, rfl, hno, hx⟩ := hrel.out
    clear hrel
    have HO := Lib.hid hno
    have HX := Lib.hid hx
    clear hno hx
    by_cases hlt : k < 16
    · have CT : Hid (Calls Tryd.prog 84 #[.int .i64 k] wr (RetS wr (testS k))) := iTestText_c k hlt wr (HN.out.ext HX.out)
      by_cases he : testS k = s
      · have HE : Hid (rTest (bs s) = some k) := rTest_at hlt (by rw [he]) HO.out
        rw [he] at CT
        clear he
        go_wp2_with fail
        refine CT.out.mono ?_
        rintro e w1 ⟨rfl, hx1⟩
        have HX1 := Lib.hid (HX.out.trans hx1)
        clear hx1
        go_wp2
        go_ret2
        exact ⟨by rw [HE.out]; rfl, HX1.out⟩
      · have HE : Hid (bs (testS k) ≠ bs s) := fun h => he (ByteArray.ext (Array.toList_inj.1 h))
        have hne : ((testS k).toList == s.toList) = false := by
          rw [Lib.toList_data, Lib.toList_data, beq_eq_false_iff_ne]; exact HE.out
        clear he
        go_wp2_with fail
        refine CT.out.mono ?_
        rintro e w1 ⟨rfl, hx1⟩
        have HX1 := Lib.hid (HX.out.trans hx1)
        clear hx1
        go_wp2
        go_roundw
        case rel => exact Lib.hid ⟨k + 1, by omega, by go_num, fun j hj => by rcases Nat.lt_or_eq_of_le (Nat.le_of_lt_succ hj) with h | rfl; exact HO.out j h; exact HE.out, HX1.out⟩
        case measure => simp [intOf]; omega
    · obtain rfl : k = 16 := by omega
      have HE : Hid (rTest (bs s) = none) := rTest_no HO.out
      rw [show ((16 : Nat) : Int) = 16 from rfl]
      go_wp2
      go_ret2
      exact ⟨by rw [HE.out]; rfl, HX.out⟩
theorem indexByte_c (s : ByteArray) (c : Int) (w : World) :
    Calls Tryd.prog 80 #[.string s, .int .u8 c] w fun e w' => e = .returned (.int .i64 (Lib.indexByte s.data.toList c.toNat.toUInt8)) ∧ w = w' := by
  go_enter Tryd.func80, Tryd.ntmps80
  go_wp2
  rw [run_callFunc_extern Tryd.func85 (by kernel_rfl) (by kernel_rfl) (by kernel_rfl) (e := Extern.BytealgIndexByte.indexByte) (by kernel_rfl), Lib.run_indexByteString]
  simp only [Result.andThen]
  rw [Oper.upon_value]
  go_wp2
  go_ret
  exact ⟨rfl, rfl⟩
theorem sliteHasPrefix_c (s p : ByteArray) (w : World) :
    Calls Tryd.prog 82 #[.string s, .string p] w fun e w' => e = .returned (.bool (Lib.hasPrefix s.data.toList p.data.toList)) ∧ w = w' := by
  rw [← Lib.hasPrefix_of_take, ← Lib.size_eq, ← Lib.size_eq]
  go_enter Tryd.func82, Tryd.ntmps82
  go_wp2
  · rename_i h
    go_ret
    refine ⟨?_, rfl⟩
    show Ending.returned (Value.bool ((s.extract 0 p.size).toList == p.toList)) = _
    rw [Lib.extract_toList, Lib.toList_data]
    simp [h]
  · rename_i h
    go_ret
    refine ⟨?_, rfl⟩
    show Ending.returned (Value.bool false) = _
    simp [h]
theorem hasPrefix_c (s p : ByteArray) (w : World) :
    Calls Tryd.prog 79 #[.string s, .string p] w fun e w' => e = .returned (.bool (Lib.hasPrefix s.data.toList p.data.toList)) ∧ w = w' := by
  go_enter Tryd.func79, Tryd.ntmps79
  go_wp2_with fail
  refine (sliteHasPrefix_c _ _ _).mono ?_
  rintro e w' ⟨rfl, rfl⟩
  go_wp2
  go_ret
  exact ⟨rfl, rfl⟩
theorem prefix1 (l : List UInt8) (c : UInt8) : Lib.hasPrefix l [c] = (l.head? == some c) := by
  unfold Lib.hasPrefix
  cases l with
  | nil => rfl
  | cons d l => simp only [List.isPrefixOf, List.head?_cons]; rw [Bool.eq_iff_iff]; simp only [Bool.and_true, beq_iff_eq, Option.some.injEq]; exact eq_comm
/-- Where a byte stands first. -/
theorem indexByte_eq (c : UInt8) : ∀ l : List UInt8, Lib.indexByte l c = (match l.idxOf? c with | none => -1 | some k => (k : Int))
  | [] => rfl
  | b :: l => by
    simp only [Lib.indexByte, List.idxOf?_cons]
    rw [indexByte_eq c l]
    cases hb : b == c
    · simp only [Bool.false_eq_true, if_false]
      cases l.idxOf? c with
      | none => rfl
      | some k =>
        have : ((k : Int) == -1) = false := by rw [beq_eq_false_iff_ne]; omega
        simp only [this, Option.map_some]
        simp
    · rfl
end Go.Proofs.YtlaamecfknkmlaaDoor
