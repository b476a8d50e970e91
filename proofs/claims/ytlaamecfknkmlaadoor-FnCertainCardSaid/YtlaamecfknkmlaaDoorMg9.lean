/- Merged texts: contracts and plain lemmas (Ka, Nm, Tt). -/
import Derived.Test.YtlaamecfknkmlaaDoorMg5
import Derived.Test.YtlaamecfknkmlaaDoorMg4
import Derived.Deep.RegionLaw
import Derived.Test.YtlaamecfknkmlaaDoorRows
import Derived.Maps.StringElems
import Derived.WalkLawsBesides
import Derived.Laws.IdiomStrings
/- Contracts: validity of expressions, and the halves of an expression. -/
namespace Go.Proofs.YtlaamecfknkmlaaDoor
set_option linter.unusedVariables false
open Go.RowKit Go.Kt

theorem tkK_cases (x : Int) : (x = 19 ∧ tkK x = 2) ∨ (x = 20 ∧ tkK x = 2) ∨ (x = 21 ∧ tkK x = 1) ∨ ((x ≠ 19 ∧ x ≠ 20 ∧ x ≠ 21) ∧ tkK x = 0) := by
  unfold tkK
  by_cases h1 : x = 19
  · exact .inl ⟨h1, if_pos (.inl h1)⟩
  · by_cases h2 : x = 20
    · exact .inr (.inl ⟨h2, if_pos (.inr h2)⟩)
    · by_cases h3 : x = 21
      · exact .inr (.inr (.inl ⟨h3, by rw [if_neg (by omega), if_pos h3]⟩))
      · exact .inr (.inr (.inr ⟨⟨h1, h2, h3⟩, by rw [if_neg (by omega), if_neg h3]⟩))
theorem takes_c (x : Int) (w : World) : Calls Tryd.prog 53 #[.int .i64 x] w fun e w' => e = .returned (.int .i64 (tkK x)) ∧ w = w' := by
  rcases tkK_cases x with ⟨rfl, h⟩ | ⟨rfl, h⟩ | ⟨rfl, h⟩ | ⟨⟨h1, h2, h3⟩, h⟩
  · have H := Lib.hid h
    clear h
    go_enter Tryd.func53, Tryd.ntmps53
    go_wp2
    go_ret
    exact ⟨by rw [H.out]; rfl, rfl⟩
  · have H := Lib.hid h
    clear h
    go_enter Tryd.func53, Tryd.ntmps53
    go_wp2
    go_ret
    exact ⟨by rw [H.out]; rfl, rfl⟩
  · have H := Lib.hid h
    clear h
    go_enter Tryd.func53, Tryd.ntmps53
    go_wp2
    go_ret
    exact ⟨by rw [H.out]; rfl, rfl⟩
  · have H := Lib.hid h
    have e1 : (x == 19) = false := by simp [h1]
    have e2 : (x == 20) = false := by simp [h2]
    have e3 : (x == 21) = false := by simp [h3]
    clear h h1 h2 h3
    go_enter Tryd.func53, Tryd.ntmps53
    go_wp2
    go_ret
    exact ⟨by rw [H.out]; rfl, rfl⟩

set_option maxRecDepth 100000 in
theorem iKatValid_c (a : Option Addr) (cap : Nat) (l : List Int) (w : World) (hl : IntsAt w a l) (hlen : l.length ≤ 4194304) :
    Calls Tryd.prog 26 #[.slice a l.length cap] w fun e w' => e = .returned (.bool (kvB l)) ∧ w = w' := by
  by_cases hn : 1 ≤ l.length ∧ l.length ≤ 40
  · have hn1 : 1 ≤ l.length := hn.1
    have hn2 : l.length ≤ 40 := hn.2
    have HN := Lib.hid hn
    obtain ⟨b, off, h1, h2⟩ := hl
    obtain ⟨rfl, hb⟩ := h1 (by omega)
    have H2 := Lib.hid h2
    clear h1 h2 hn
    go_enter Tryd.func26, Tryd.ntmps26
    go_wp2
    go_loop [3, 16] (fun mv i => Hid (∃ k m : Nat, k ≤ l.length ∧ i = .int .i64 k ∧ mv = .int .i64 m ∧ m ≤ k ∧ mnyK l k = some m)) (fun _ i => l.length - (intOf i).toNat)
    case atStart => exact Lib.hid ⟨0, 0, Nat.zero_le _, rfl, rfl, Nat.le_refl _, rfl⟩
    case round =>
      obtain ⟨k, m, hk, rfl, rfl, hmk, hm⟩ := hrel.out
      clear hrel
      by_cases hlt : k < l.length
      · have hc := H2.out k hlt
        have hbad : Hid (BadK (nth l k) m → kvB l = false) := fun h => kvB_none (k := k + 1) (by omega) (mnyK_bad hm h)
        have hgood : Hid (¬ BadK (nth l k) m → mnyK l (k + 1) = some (m - (tkK (nth l k)).toNat + 1)) := fun h => mnyK_good hm h
        have hr := tkK_range (nth l k)
        have hcall : ∀ w0 : World, Calls Tryd.prog 53 #[.int .i64 (nth l k)] w0 fun e w' => e = .returned (.int .i64 (tkK (nth l k))) ∧ w0 = w' := fun w0 => takes_c _ w0
        have HC := Lib.hid hcall
        have hbd : BadK (nth l k) m ↔ (nth l k < 0 ∨ 21 < nth l k ∨ (m : Int) < tkK (nth l k)) := Iff.rfl
        have HBD := Lib.hid hbd
        clear hm hcall hbd
        generalize hB : BadK (nth l k) m = Bad at *
        generalize tkK (nth l k) = T at *
        generalize nth l k = x at *
        by_cases hx : x < 0
        · have HV := Lib.hid (hbad.out (HBD.out.2 (.inl hx)))
          clear hbad hgood
          go_wp2_with (first | (go_at_call 53; refine (HC.out _).mono ?_; rintro e w' ⟨rfl, rfl⟩) | fail)
          go_ret
          exact ⟨by rw [HV.out]; rfl, rfl⟩
        · by_cases hx2 : 21 < x
          · have HV := Lib.hid (hbad.out (HBD.out.2 (.inr (.inl hx2))))
            clear hbad hgood
            go_wp2_with (first | (go_at_call 53; refine (HC.out _).mono ?_; rintro e w' ⟨rfl, rfl⟩) | fail)
            go_ret
            exact ⟨by rw [HV.out]; rfl, rfl⟩
          · by_cases hT : (m : Int) < T
            · have HV := Lib.hid (hbad.out (HBD.out.2 (.inr (.inr hT))))
              clear hbad hgood
              go_wp2_with (first | (go_at_call 53; refine (HC.out _).mono ?_; rintro e w' ⟨rfl, rfl⟩) | fail)
              go_ret
              exact ⟨by rw [HV.out]; rfl, rfl⟩
            · have hg := Lib.hid (hgood.out fun h => by rcases HBD.out.1 h with h | h | h <;> omega)
              clear hbad hgood
              go_wp2_with (first | (go_at_call 53; refine (HC.out _).mono ?_; rintro e w' ⟨rfl, rfl⟩) | fail)
              go_round
              case rel => exact Lib.hid ⟨k + 1, m - T.toNat + 1, by omega, by go_num, by congr 1; omega, by omega, hg.out⟩
              case measure => simp [intOf]; omega
      · obtain rfl : k = l.length := by omega
        have hv := Lib.hid (kvB_end HN.out hm)
        have hq : ((m : Int) == 1) = (m == 1) := by rw [Bool.eq_iff_iff]; simp; omega
        clear hm
        go_wp2
        go_ret
        exact ⟨by rw [hv.out, ← hq]; rfl, rfl⟩
  · have hv := Lib.hid (kvB_out hn)
    by_cases h1 : 1 ≤ l.length
    all_goals
      clear hl
      go_enter Tryd.func26, Tryd.ntmps26
      go_wp2
      go_ret
      exact ⟨by rw [hv.out]; rfl, rfl⟩
end Go.Proofs.YtlaamecfknkmlaaDoor
/- The map of the tests' names, and the texts of tests: contracts. -/
namespace Go.Kt
/-- A test's text, as far as its first k atoms. -/
def digS (t : Nat) : Nat → ByteArray
  | 0 => ⟨#[91]⟩
  | k + 1 => if t.testBit k then digS t k ++ ⟨#[UInt8.ofNat (48 + k)]⟩ else digS t k
def nameS (t : Nat) : ByteArray := if t = 0 then ⟨#[48]⟩ else if t = 15 then ⟨#[49]⟩ else if t = 10 then ⟨#[112]⟩ else if t = 12 then ⟨#[113]⟩ else if t = 5 then ⟨#[33, 112]⟩ else if t = 3 then ⟨#[33, 113]⟩ else ⟨#[]⟩
def namedB (t : Nat) : Bool := t == 0 || t == 15 || t == 10 || t == 12 || t == 5 || t == 3
/-- A test's text. -/
def testS (t : Nat) : ByteArray := if namedB t then nameS t else digS t 4 ++ ⟨#[93]⟩
theorem digS_size (t : Nat) : ∀ k, (digS t k).size ≤ k + 1
  | 0 => Nat.le_refl _
  | k + 1 => by
    have h := digS_size t k
    simp only [digS]
    split
    · rw [ByteArray.size_append]; show _ + 1 ≤ _; omega
    · omega
theorem testS_size (t : Nat) : (testS t).size ≤ 6 := by
  unfold testS
  split
  · unfold nameS
    repeat' split
    all_goals decide
  · have := digS_size t 4
    rw [ByteArray.size_append]; show _ + 1 ≤ _; omega
end Go.Kt
namespace Go.Proofs.YtlaamecfknkmlaaDoor
set_option linter.unusedVariables false
open Go.RowKit Go.Kt

/-- The map of names, as the program laid it. -/
def NamesW (w : World) : Prop := ∃ b n, w.cell? ⟨2, 0, none⟩ = some (.map (some b)) ∧ w.ownsMap Tryd.prog 3 (plainElem Tryd.prog 9) b n (Rows.laid_loop_example_kleenetests_impl_testNames : DataW Unit)
theorem NamesW.ext {w w' : World} (h : NamesW w) (e : Ext w w') : NamesW w' := by
  obtain ⟨b, n, h1, es, ck, hb, h2⟩ := h
  exact ⟨b, n, e.cell' h1 (lt_of_cell h1), es, ck, (e.block b (Array.getElem?_eq_some_iff.1 hb).1).trans hb, h2⟩
theorem look_has (t : Nat) (ht : t < 16) : Maps.has (Rows.laid_loop_example_kleenetests_impl_testNames : DataW Unit) (.int .i64 t) = namedB t := by
  rcases (show t = 0 ∨ t = 1 ∨ t = 2 ∨ t = 3 ∨ t = 4 ∨ t = 5 ∨ t = 6 ∨ t = 7 ∨ t = 8 ∨ t = 9 ∨ t = 10 ∨ t = 11 ∨ t = 12 ∨ t = 13 ∨ t = 14 ∨ t = 15 by omega) with rfl | rfl | rfl | rfl | rfl | rfl | rfl | rfl | rfl | rfl | rfl | rfl | rfl | rfl | rfl | rfl
  all_goals decide
theorem look_at (t : Nat) (ht : t < 16) : (Rows.laid_loop_example_kleenetests_impl_testNames : DataW Unit).atKey (.int .i64 t) (.lit (.string [])) = .lit (.string (nameS t).data.toList) := by
  rcases (show t = 0 ∨ t = 1 ∨ t = 2 ∨ t = 3 ∨ t = 4 ∨ t = 5 ∨ t = 6 ∨ t = 7 ∨ t = 8 ∨ t = 9 ∨ t = 10 ∨ t = 11 ∨ t = 12 ∨ t = 13 ∨ t = 14 ∨ t = 15 by omega) with rfl | rfl | rfl | rfl | rfl | rfl | rfl | rfl | rfl | rfl | rfl | rfl | rfl | rfl | rfl | rfl
  all_goals rfl
theorem names_look (t : Nat) (ht : t < 16) (w : World) (h : NamesW w) :
    ∃ b, w.cell? ⟨2, 0, none⟩ = some (.map (some b)) ∧ (Instr.lookup 104 (.map (some b)) (.int .i64 t) true).run Tryd.prog w = .ok (.tuple #[.string (nameS t), .bool (namedB t)]) w := by
  obtain ⟨b, n, h1, h2⟩ := h
  have hw : (Lit.int .i64 (t : Int)).wf = true := by
    rcases (show t = 0 ∨ t = 1 ∨ t = 2 ∨ t = 3 ∨ t = 4 ∨ t = 5 ∨ t = 6 ∨ t = 7 ∨ t = 8 ∨ t = 9 ∨ t = 10 ∨ t = 11 ∨ t = 12 ∨ t = 13 ∨ t = 14 ∨ t = 15 by omega) with rfl | rfl | rfl | rfl | rfl | rfl | rfl | rfl | rfl | rfl | rfl | rfl | rfl | rfl | rfl | rfl
    all_goals decide
  obtain ⟨v, ps, hr, hv⟩ := h2.look_ok (Maps.int_keyed Tryd.underlying3) Tryd.underlying104 (z := .string ByteArray.empty) (by kernel_rfl) (plainElem_string Tryd.underlying9 (by decide)) (Maps.keyOf_int_mk Tryd.underlying3 hw)
  obtain ⟨s, rfl, hz, -⟩ := plainElem_string_inv Tryd.underlying9 hv
  simp only [Prod.mk.injEq] at hz
  refine ⟨b, h1, ?_⟩
  have h3 := look_at t ht
  have h4 : s = nameS t := by
    have h5 : (DataW.lit (.string (nameS t).data.toList) : DataW Unit) = .lit (.string s.data.toList) := h3.symm.trans hz.1
    simp only [DataW.lit.injEq, Lit.string.injEq] at h5
    exact ByteArray.ext (Array.toList_inj.1 h5.symm)
  rw [hr, look_has t ht, h4]
end Go.Proofs.YtlaamecfknkmlaaDoor
/- Contracts: the texts of tests. -/
namespace Go.Proofs.YtlaamecfknkmlaaDoor
set_option linter.unusedVariables false
open Go.RowKit Go.Kt

theorem tvI_c (t : Int) (w : World) :
    Calls Tryd.prog 43 #[.int .i64 t] w fun e w' => e = .returned (.bool (inB t 0 15)) ∧ w = w' := by
  by_cases h1 : 0 ≤ t
  all_goals
    go_enter Tryd.func43, Tryd.ntmps43
    go_wp2
    go_ret
    exact ⟨by simp [inB, h1]; try omega, rfl⟩
theorem tvS_c (t : Int) (w : World) :
    Calls Tryd.prog 35 #[.int .i64 t] w fun e w' => e = .returned (.bool (inB t 0 15)) ∧ w = w' := by
  go_enter Tryd.func35, Tryd.ntmps35
  go_wp2_with (go_at_call 34; refine (l1In_c _ _ _ _).mono ?_; rintro e w' ⟨rfl, rfl⟩)
  go_ret
  exact ⟨rfl, rfl⟩
/-- A text, and only new memory. -/
def RetS (w : World) (s : ByteArray) (e : Ending) (w' : World) : Prop := e = .returned (.string s) ∧ Ext w w'
theorem iTestText_c (t : Nat) (ht : t < 16) (w : World) (hn : NamesW w) :
    Calls Tryd.prog 84 #[.int .i64 t] w (RetS w (testS t)) := by
  obtain ⟨b, hg, hlk⟩ := names_look t ht w hn
  have hin : inB (t : Int) 0 15 = true := by simp [inB]; omega
  cases hb : namedB t with
  | true =>
    have HF : Hid (testS t = nameS t) := by unfold Hid testS; rw [if_pos hb]
    rw [hb] at hlk
    generalize nameS t = nm at *
    clear hn hb
    go_enter Tryd.func84, Tryd.ntmps84
    go_wp2_with fail
    refine (tvI_c _ _).mono ?_
    rw [hin]
    rintro e w1 ⟨rfl, rfl⟩
    go_wp2
    go_ret
    exact ⟨by rw [HF.out]; rfl, Ext.refl _⟩
  | false =>
    have HF : Hid (testS t = digS t 4 ++ ⟨#[93]⟩) := by unfold Hid testS; rw [if_neg (by simp [hb])]
    rw [hb] at hlk
    have HD : Hid (∀ k, (digS t k).size ≤ k + 1) := digS_size t
    have HS : Hid (∀ k, t.testBit k = true → digS t (k + 1) = digS t k ++ ⟨#[UInt8.ofNat (48 + k)]⟩) := fun k h => by simp only [digS]; rw [if_pos h]
    have HN : Hid (∀ k, t.testBit k = false → digS t (k + 1) = digS t k) := fun k h => by simp only [digS]; rw [if_neg (by simp [h])]
    generalize nameS t = nm at *
    clear hn hb
    go_enter Tryd.func84, Tryd.ntmps84
    go_wp2_with fail
    refine (tvI_c _ _).mono ?_
    rw [hin]
    rintro e w1 ⟨rfl, rfl⟩
    go_wp2
    go_loop [5, 18] (fun o i => Hid (∃ k : Nat, k ≤ 4 ∧ i = .int .i64 k ∧ o = .string (digS t k))) (fun _ i => 4 - (intOf i).toNat)
    case atStart => exact Lib.hid ⟨0, by omega, rfl, rfl⟩
    case round =>
      obtain ⟨k, hk, rfl, rfl⟩ := hrel.out
      clear hrel
      have hsz := HD.out k
      rcases (show k = 0 ∨ k = 1 ∨ k = 2 ∨ k = 3 ∨ k = 4 by omega) with rfl | rfl | rfl | rfl | rfl
      case inr.inr.inr.inr =>
        have hadd := run_string_add_sum (P := Tryd.prog) w (digS t 4) ⟨#[93]⟩ (by have : (⟨#[93]⟩ : ByteArray).size = 1 := rfl; omega)
        go_wp2
        go_ret
        exact ⟨by rw [HF.out]; rfl, Ext.refl _⟩
      case inl =>
        rw [show ((0 : Nat) : Int) = 0 from rfl]
        have hen : Utf8.encode 48 = ⟨#[48]⟩ := by kernel_rfl
        have CH : Hid (∀ w' : World, Calls Tryd.prog 40 #[.int .i64 t, .int .i64 0] w' fun e w'' => e = .returned (.bool (t.testBit 0)) ∧ w' = w'') := fun w' => holds_c t 0 w' (by omega) (by omega)
        have H1 : Hid (t.testBit 0 = true → digS t 1 = digS t 0 ++ ⟨#[48]⟩) := HS.out 0
        have H2 : Hid (t.testBit 0 = false → digS t 1 = digS t 0) := HN.out 0
        have hadd := run_string_add_sum (P := Tryd.prog) w (digS t 0) ⟨#[48]⟩ (by have : (⟨#[48]⟩ : ByteArray).size = 1 := rfl; omega)
        have HE : Hid (digS t 1 = if t.testBit 0 then digS t 0 ++ ⟨#[48]⟩ else digS t 0) := rfl
        clear H1 H2
        cases ht2 : t.testBit 0
        all_goals
          rw [ht2] at CH HE
          replace HE := Lib.hid (HE.out.trans (by first | exact if_neg (by decide) | exact if_pos rfl))
          clear ht2
          go_wp2_with fail
          refine (CH.out _).mono ?_
          rintro e w1 ⟨rfl, rfl⟩
          go_wp2
          go_round
          case rel => exact Lib.hid ⟨1, by omega, by go_num, by rw [HE.out]⟩
          case measure => simp [intOf]
      case inr.inl =>
        rw [show ((1 : Nat) : Int) = 1 from rfl]
        have hen : Utf8.encode 49 = ⟨#[49]⟩ := by kernel_rfl
        have CH : Hid (∀ w' : World, Calls Tryd.prog 40 #[.int .i64 t, .int .i64 1] w' fun e w'' => e = .returned (.bool (t.testBit 1)) ∧ w' = w'') := fun w' => holds_c t 1 w' (by omega) (by omega)
        have H1 : Hid (t.testBit 1 = true → digS t 2 = digS t 1 ++ ⟨#[49]⟩) := HS.out 1
        have H2 : Hid (t.testBit 1 = false → digS t 2 = digS t 1) := HN.out 1
        have hadd := run_string_add_sum (P := Tryd.prog) w (digS t 1) ⟨#[49]⟩ (by have : (⟨#[49]⟩ : ByteArray).size = 1 := rfl; omega)
        have HE : Hid (digS t 2 = if t.testBit 1 then digS t 1 ++ ⟨#[49]⟩ else digS t 1) := rfl
        clear H1 H2
        cases ht2 : t.testBit 1
        all_goals
          rw [ht2] at CH HE
          replace HE := Lib.hid (HE.out.trans (by first | exact if_neg (by decide) | exact if_pos rfl))
          clear ht2
          go_wp2_with fail
          refine (CH.out _).mono ?_
          rintro e w1 ⟨rfl, rfl⟩
          go_wp2
          go_round
          case rel => exact Lib.hid ⟨2, by omega, by go_num, by rw [HE.out]⟩
          case measure => simp [intOf]
      case inr.inr.inl =>
        rw [show ((2 : Nat) : Int) = 2 from rfl]
        have hen : Utf8.encode 50 = ⟨#[50]⟩ := by kernel_rfl
        have CH : Hid (∀ w' : World, Calls Tryd.prog 40 #[.int .i64 t, .int .i64 2] w' fun e w'' => e = .returned (.bool (t.testBit 2)) ∧ w' = w'') := fun w' => holds_c t 2 w' (by omega) (by omega)
        have H1 : Hid (t.testBit 2 = true → digS t 3 = digS t 2 ++ ⟨#[50]⟩) := HS.out 2
        have H2 : Hid (t.testBit 2 = false → digS t 3 = digS t 2) := HN.out 2
        have hadd := run_string_add_sum (P := Tryd.prog) w (digS t 2) ⟨#[50]⟩ (by have : (⟨#[50]⟩ : ByteArray).size = 1 := rfl; omega)
        have HE : Hid (digS t 3 = if t.testBit 2 then digS t 2 ++ ⟨#[50]⟩ else digS t 2) := rfl
        clear H1 H2
        cases ht2 : t.testBit 2
        all_goals
          rw [ht2] at CH HE
          replace HE := Lib.hid (HE.out.trans (by first | exact if_neg (by decide) | exact if_pos rfl))
          clear ht2
          go_wp2_with fail
          refine (CH.out _).mono ?_
          rintro e w1 ⟨rfl, rfl⟩
          go_wp2
          go_round
          case rel => exact Lib.hid ⟨3, by omega, by go_num, by rw [HE.out]⟩
          case measure => simp [intOf]
      case inr.inr.inr.inl =>
        rw [show ((3 : Nat) : Int) = 3 from rfl]
        have hen : Utf8.encode 51 = ⟨#[51]⟩ := by kernel_rfl
        have CH : Hid (∀ w' : World, Calls Tryd.prog 40 #[.int .i64 t, .int .i64 3] w' fun e w'' => e = .returned (.bool (t.testBit 3)) ∧ w' = w'') := fun w' => holds_c t 3 w' (by omega) (by omega)
        have H1 : Hid (t.testBit 3 = true → digS t 4 = digS t 3 ++ ⟨#[51]⟩) := HS.out 3
        have H2 : Hid (t.testBit 3 = false → digS t 4 = digS t 3) := HN.out 3
        have hadd := run_string_add_sum (P := Tryd.prog) w (digS t 3) ⟨#[51]⟩ (by have : (⟨#[51]⟩ : ByteArray).size = 1 := rfl; omega)
        have HE : Hid (digS t 4 = if t.testBit 3 then digS t 3 ++ ⟨#[51]⟩ else digS t 3) := rfl
        clear H1 H2
        cases ht2 : t.testBit 3
        all_goals
          rw [ht2] at CH HE
          replace HE := Lib.hid (HE.out.trans (by first | exact if_neg (by decide) | exact if_pos rfl))
          clear ht2
          go_wp2_with fail
          refine (CH.out _).mono ?_
          rintro e w1 ⟨rfl, rfl⟩
          go_wp2
          go_round
          case rel => exact Lib.hid ⟨4, by omega, by go_num, by rw [HE.out]⟩
          case measure => simp [intOf]
end Go.Proofs.YtlaamecfknkmlaaDoor
