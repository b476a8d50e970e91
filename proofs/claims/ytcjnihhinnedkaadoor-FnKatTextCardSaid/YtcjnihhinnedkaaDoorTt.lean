/- Contracts: the texts of tests. -/
import Derived.Test.YtcjnihhinnedkaaDoorNm
import Derived.Laws.IdiomStrings
namespace Go.Proofs.YtcjnihhinnedkaaDoor
set_option linter.unusedVariables false
open Go.RowKit Go.Kt

theorem tvI_c (t : Int) (w : World) :
    Calls Tryd.prog 41 #[.int .i64 t] w fun e w' => e = .returned (.bool (inB t 0 15)) ∧ w = w' := by
  by_cases h1 : 0 ≤ t
  all_goals
    go_enter Tryd.func41, Tryd.ntmps41
    go_wp2
    go_ret
    exact ⟨by simp [inB, h1]; try omega, rfl⟩
theorem tvS_c (t : Int) (w : World) :
    Calls Tryd.prog 44 #[.int .i64 t] w fun e w' => e = .returned (.bool (inB t 0 15)) ∧ w = w' := by
  go_enter Tryd.func44, Tryd.ntmps44
  go_wp2_with (go_at_call 31; refine (l1In_c _ _ _ _).mono ?_; rintro e w' ⟨rfl, rfl⟩)
  go_ret
  exact ⟨rfl, rfl⟩
theorem l1Named_c (t : Nat) (ht : t < 16) (w : World) :
    Calls Tryd.prog 45 #[.int .i64 t] w fun e w' => e = .returned (.string (nameS t)) ∧ w = w' := by
  rcases (show t = 0 ∨ t = 1 ∨ t = 2 ∨ t = 3 ∨ t = 4 ∨ t = 5 ∨ t = 6 ∨ t = 7 ∨ t = 8 ∨ t = 9 ∨ t = 10 ∨ t = 11 ∨ t = 12 ∨ t = 13 ∨ t = 14 ∨ t = 15 by omega) with rfl | rfl | rfl | rfl | rfl | rfl | rfl | rfl | rfl | rfl | rfl | rfl | rfl | rfl | rfl | rfl
  all_goals
    go_enter Tryd.func45, Tryd.ntmps45
    go_wp2
    go_ret
    exact ⟨rfl, rfl⟩
/-- A text, and only new memory. -/
def RetS (w : World) (s : ByteArray) (e : Ending) (w' : World) : Prop := e = .returned (.string s) ∧ Ext w w'
theorem iTestText_c (t : Nat) (ht : t < 16) (w : World) (hn : NamesW w) :
    Calls Tryd.prog 36 #[.int .i64 t] w (RetS w (testS t)) := by
  obtain ⟨b, hg, hlk⟩ := names_look t ht w hn
  have hin : inB (t : Int) 0 15 = true := by simp [inB]; omega
  cases hb : namedB t with
  | true =>
    have HF : Hid (testS t = nameS t) := by unfold Hid testS; rw [if_pos hb]
    rw [hb] at hlk
    generalize nameS t = nm at *
    clear hn hb
    go_enter Tryd.func36, Tryd.ntmps36
    go_wp2_with fail
    refine (tvI_c _ _).mono ?_
    rw [hin]
    rintro e w1 ⟨rfl, rfl⟩
    go_wp2
    go_ret
    exact ⟨by rw [HF.out]; rfl, Ext.refl _⟩
  | false =>
    have HF : Hid (testS t = digS t 4 ++ ⟨#[93]⟩) := by unfold Hid testS; rw [if_neg (by simp [hb])]
    rw [hb] at hlk
    have HD : Hid (∀ k, (digS t k).size ≤ k + 1) := digS_size t
    have HS : Hid (∀ k, t.testBit k = true → digS t (k + 1) = digS t k ++ ⟨#[UInt8.ofNat (48 + k)]⟩) := fun k h => by simp only [digS]; rw [if_pos h]
    have HN : Hid (∀ k, t.testBit k = false → digS t (k + 1) = digS t k) := fun k h => by simp only [digS]; rw [if_neg (by simp [h])]
    generalize nameS t = nm at *
    clear hn hb
    go_enter Tryd.func36, Tryd.ntmps36
    go_wp2_with fail
    refine (tvI_c _ _).mono ?_
    rw [hin]
    rintro e w1 ⟨rfl, rfl⟩
    go_wp2
    go_loop [5, 18] (fun o i => Hid (∃ k : Nat, k ≤ 4 ∧ i = .int .i64 k ∧ o = .string (digS t k))) (fun _ i => 4 - (intOf i).toNat)
    case atStart => exact Lib.hid ⟨0, by omega, rfl, rfl⟩
    case round =>
      obtain ⟨k, hk, rfl, rfl⟩ := hrel.out
      clear hrel
      have hsz := HD.out k
      rcases (show k = 0 ∨ k = 1 ∨ k = 2 ∨ k = 3 ∨ k = 4 by omega) with rfl | rfl | rfl | rfl | rfl
      case inr.inr.inr.inr =>
        have hadd := run_string_add_sum (P := Tryd.prog) w (digS t 4) ⟨#[93]⟩ (by have : (⟨#[93]⟩ : ByteArray).size = 1 := rfl; omega)
        go_wp2
        go_ret
        exact ⟨by rw [HF.out]; rfl, Ext.refl _⟩
      case inl =>
        rw [show ((0 : Nat) : Int) = 0 from rfl]
        have hen : Utf8.encode 48 = ⟨#[48]⟩ := by kernel_rfl
        have CH : Hid (∀ w' : World, Calls Tryd.prog 49 #[.int .i64 t, .int .i64 0] w' fun e w'' => e = .returned (.bool (t.testBit 0)) ∧ w' = w'') := fun w' => holds_c t 0 w' (by omega) (by omega)
        have H1 : Hid (t.testBit 0 = true → digS t 1 = digS t 0 ++ ⟨#[48]⟩) := HS.out 0
        have H2 : Hid (t.testBit 0 = false → digS t 1 = digS t 0) := HN.out 0
        have hadd := run_string_add_sum (P := Tryd.prog) w (digS t 0) ⟨#[48]⟩ (by have : (⟨#[48]⟩ : ByteArray).size = 1 := rfl; omega)
        have HE : Hid (digS t 1 = if t.testBit 0 then digS t 0 ++ ⟨#[48]⟩ else digS t 0) := rfl
        clear H1 H2
        cases ht2 : t.testBit 0
        all_goals
          rw [ht2] at CH HE
          replace HE := Lib.hid (HE.out.trans (by first | exact if_neg (by decide) | exact if_pos rfl))
          clear ht2
          go_wp2_with fail
          refine (CH.out _).mono ?_
          rintro e w1 ⟨rfl, rfl⟩
          go_wp2
          go_round
          case rel => exact Lib.hid ⟨1, by omega, by go_num, by rw [HE.out]⟩
          case measure => simp [intOf]
      case inr.inl =>
        rw [show ((1 : Nat) : Int) = 1 from rfl]
        have hen : Utf8.encode 49 = ⟨#[49]⟩ := by kernel_rfl
        have CH : Hid (∀ w' : World, Calls Tryd.prog 49 #[.int .i64 t, .int .i64 1] w' fun e w'' => e = .returned (.bool (t.testBit 1)) ∧ w' = w'') := fun w' => holds_c t 1 w' (by omega) (by omega)
        have H1 : Hid (t.testBit 1 = true → digS t 2 = digS t 1 ++ ⟨#[49]⟩) := HS.out 1
        have H2 : Hid (t.testBit 1 = false → digS t 2 = digS t 1) := HN.out 1
        have hadd := run_string_add_sum (P := Tryd.prog) w (digS t 1) ⟨#[49]⟩ (by have : (⟨#[49]⟩ : ByteArray).size = 1 := rfl; omega)
        have HE : Hid (digS t 2 = if t.testBit 1 then digS t 1 ++ ⟨#[49]⟩ else digS t 1) := rfl
        clear H1 H2
        cases ht2 : t.testBit 1
        all_goals
          rw [ht2] at CH HE
          replace HE := Lib.hid (HE.out.trans (by first | exact if_neg (by decide) | exact if_pos rfl))
          clear ht2
          go_wp2_with fail
          refine (CH.out _).mono ?_
          rintro e w1 ⟨rfl, rfl⟩
          go_wp2
          go_round
          case rel => exact Lib.hid ⟨2, by omega, by go_num, by rw [HE.out]⟩
          case measure => simp [intOf]
      case inr.inr.inl =>
        rw [show ((2 : Nat) : Int) = 2 from rfl]
        have hen : Utf8.encode 50 = ⟨#[50]⟩ := by kernel_rfl
        have CH : Hid (∀ w' : World, Calls Tryd.prog 49 #[.int .i64 t, .int .i64 2] w' fun e w'' => e = .returned (.bool (t.testBit 2)) ∧ w' = w'') := fun w' => holds_c t 2 w' (by omega) (by omega)
        have H1 : Hid (t.testBit 2 = true → digS t 3 = digS t 2 ++ ⟨#[50]⟩) := HS.out 2
        have H2 : Hid (t.testBit 2 = false → digS t 3 = digS t 2) := HN.out 2
        have hadd := run_string_add_sum (P := Tryd.prog) w (digS t 2) ⟨#[50]⟩ (by have : (⟨#[50]⟩ : ByteArray).size = 1 := rfl; omega)
        have HE : Hid (digS t 3 = if t.testBit 2 then digS t 2 ++ ⟨#[50]⟩ else digS t 2) := rfl
        clear H1 H2
        cases ht2 : t.testBit 2
        all_goals
          rw [ht2] at CH HE
          replace HE := Lib.hid (HE.out.trans (by first | exact if_neg (by decide) | exact if_pos rfl))
          clear ht2
          go_wp2_with fail
          refine (CH.out _).mono ?_
          rintro e w1 ⟨rfl, rfl⟩
          go_wp2
          go_round
          case rel => exact Lib.hid ⟨3, by omega, by go_num, by rw [HE.out]⟩
          case measure => simp [intOf]
      case inr.inr.inr.inl =>
        rw [show ((3 : Nat) : Int) = 3 from rfl]
        have hen : Utf8.encode 51 = ⟨#[51]⟩ := by kernel_rfl
        have CH : Hid (∀ w' : World, Calls Tryd.prog 49 #[.int .i64 t, .int .i64 3] w' fun e w'' => e = .returned (.bool (t.testBit 3)) ∧ w' = w'') := fun w' => holds_c t 3 w' (by omega) (by omega)
        have H1 : Hid (t.testBit 3 = true → digS t 4 = digS t 3 ++ ⟨#[51]⟩) := HS.out 3
        have H2 : Hid (t.testBit 3 = false → digS t 4 = digS t 3) := HN.out 3
        have hadd := run_string_add_sum (P := Tryd.prog) w (digS t 3) ⟨#[51]⟩ (by have : (⟨#[51]⟩ : ByteArray).size = 1 := rfl; omega)
        have HE : Hid (digS t 4 = if t.testBit 3 then digS t 3 ++ ⟨#[51]⟩ else digS t 3) := rfl
        clear H1 H2
        cases ht2 : t.testBit 3
        all_goals
          rw [ht2] at CH HE
          replace HE := Lib.hid (HE.out.trans (by first | exact if_neg (by decide) | exact if_pos rfl))
          clear ht2
          go_wp2_with fail
          refine (CH.out _).mono ?_
          rintro e w1 ⟨rfl, rfl⟩
          go_wp2
          go_round
          case rel => exact Lib.hid ⟨4, by omega, by go_num, by rw [HE.out]⟩
          case measure => simp [intOf]
theorem sTestText_c (t : Nat) (ht : t < 16) (w : World) :
    Calls Tryd.prog 33 #[.int .i64 t] w (RetS w (testS t)) := by
  cases hb : namedB t with
  | true =>
    rcases (show t = 0 ∨ t = 3 ∨ t = 5 ∨ t = 10 ∨ t = 12 ∨ t = 15 by simp [namedB] at hb; omega) with rfl | rfl | rfl | rfl | rfl | rfl
    · show Calls Tryd.prog 33 #[.int .i64 0] w _
      have hin : inB 0 0 15 = true := rfl
      go_enter Tryd.func33, Tryd.ntmps33
      go_wp2_with fail
      refine (tvS_c _ _).mono ?_
      rw [hin]
      rintro e w1 ⟨rfl, rfl⟩
      go_wp2
      go_ret
      exact ⟨rfl, Ext.refl _⟩
    · show Calls Tryd.prog 33 #[.int .i64 3] w _
      have hin : inB 3 0 15 = true := rfl
      go_enter Tryd.func33, Tryd.ntmps33
      go_wp2_with fail
      refine (tvS_c _ _).mono ?_
      rw [hin]
      rintro e w1 ⟨rfl, rfl⟩
      go_wp2
      go_ret
      exact ⟨rfl, Ext.refl _⟩
    · show Calls Tryd.prog 33 #[.int .i64 5] w _
      have hin : inB 5 0 15 = true := rfl
      go_enter Tryd.func33, Tryd.ntmps33
      go_wp2_with fail
      refine (tvS_c _ _).mono ?_
      rw [hin]
      rintro e w1 ⟨rfl, rfl⟩
      go_wp2
      go_ret
      exact ⟨rfl, Ext.refl _⟩
    · show Calls Tryd.prog 33 #[.int .i64 10] w _
      have hin : inB 10 0 15 = true := rfl
      go_enter Tryd.func33, Tryd.ntmps33
      go_wp2_with fail
      refine (tvS_c _ _).mono ?_
      rw [hin]
      rintro e w1 ⟨rfl, rfl⟩
      go_wp2
      go_ret
      exact ⟨rfl, Ext.refl _⟩
    · show Calls Tryd.prog 33 #[.int .i64 12] w _
      have hin : inB 12 0 15 = true := rfl
      go_enter Tryd.func33, Tryd.ntmps33
      go_wp2_with fail
      refine (tvS_c _ _).mono ?_
      rw [hin]
      rintro e w1 ⟨rfl, rfl⟩
      go_wp2
      go_ret
      exact ⟨rfl, Ext.refl _⟩
    · show Calls Tryd.prog 33 #[.int .i64 15] w _
      have hin : inB 15 0 15 = true := rfl
      go_enter Tryd.func33, Tryd.ntmps33
      go_wp2_with fail
      refine (tvS_c _ _).mono ?_
      rw [hin]
      rintro e w1 ⟨rfl, rfl⟩
      go_wp2
      go_ret
      exact ⟨rfl, Ext.refl _⟩
  | false =>
    have hin : inB (t : Int) 0 15 = true := by simp [inB]; omega
    have HF : Hid (testS t = digS t 4 ++ ⟨#[93]⟩) := by unfold Hid testS; rw [if_neg (by simp [hb])]
    have HD : Hid (∀ k, (digS t k).size ≤ k + 1) := digS_size t
    simp only [namedB, Bool.or_eq_false_iff, beq_eq_false_iff_ne] at hb
    have CN : Hid (∀ w' : World, Calls Tryd.prog 45 #[.int .i64 t] w' fun e w'' => e = .returned (.string ⟨#[]⟩) ∧ w' = w'') := fun w' => by
      have h := l1Named_c t ht w'
      rwa [show nameS t = ⟨#[]⟩ by unfold nameS; repeat rw [if_neg (by omega)]] at h
    clear hb
    go_enter Tryd.func33, Tryd.ntmps33
    go_wp2_with fail
    refine (tvS_c _ _).mono ?_
    rw [hin]
    rintro e w1 ⟨rfl, rfl⟩
    go_wp2_with (go_at_call 45; refine (CN.out _).mono ?_; rintro e w1 ⟨rfl, rfl⟩)
    go_loopw [3, 4] (fun o i wr => Hid (∃ k : Nat, k ≤ 4 ∧ i = .int .i64 k ∧ o = .string (digS t k) ∧ Ext w wr)) (fun _ i _ => 4 - (intOf i).toNat)
    case atStart => exact Lib.hid ⟨0, by omega, rfl, rfl, Ext.refl _⟩
    case round =>
      obtain ⟨k, hk, rfl, rfl, hx⟩ := hrel.out
      clear hrel
      have HX := Lib.hid hx
      have hsz := HD.out k
      clear hx
      rcases (show k = 0 ∨ k = 1 ∨ k = 2 ∨ k = 3 ∨ k = 4 by omega) with rfl | rfl | rfl | rfl | rfl
      case inr.inr.inr.inr =>
        have hadd : ∀ W : World, (Op.stringOp .add (digS t 4) ⟨#[93]⟩).run Tryd.prog W = .ok (.string (digS t 4 ++ ⟨#[93]⟩)) W := fun W => run_string_add_sum (P := Tryd.prog) W (digS t 4) ⟨#[93]⟩ (by have : (⟨#[93]⟩ : ByteArray).size = 1 := rfl; omega)
        rw [show ((4 : Nat) : Int) = 4 from rfl]
        go_wp2
        go_ret
        exact ⟨by rw [HF.out]; rfl, HX.out⟩
      case inl =>
        rw [show ((0 : Nat) : Int) = 0 from rfl]
        have CH : Hid (∀ w' : World, Calls Tryd.prog 46 #[.int .i64 t, .int .i64 0] w' fun e w'' => e = .returned (.int .i64 ((t.testBit 0).toNat : Nat)) ∧ w' = w'') := fun w' => l1Bit_c t 0 w' (by omega) (by omega)
        have hadd : ∀ W : World, (Op.stringOp .add (digS t 0) ⟨#[48]⟩).run Tryd.prog W = .ok (.string (digS t 0 ++ ⟨#[48]⟩)) W := fun W => run_string_add_sum (P := Tryd.prog) W (digS t 0) ⟨#[48]⟩ (by have : (⟨#[48]⟩ : ByteArray).size = 1 := rfl; omega)
        have hcv : (convert 27 9 (.slice (some ⟨wr.heap.size, 0, none⟩) 1 1)).run Tryd.prog (wr.alloc (.cells #[.int .u8 48] 5)) = .ok (.string ⟨#[48]⟩) (wr.alloc (.cells #[.int .u8 48] 5)) := by
          exact run_convert_bytes_back _ _ _ 5 ⟨wr.heap.size, 0, none⟩ 1 [48] Tryd.underlying27 Tryd.underlying5 Tryd.underlying9 (fun j hj => by
            obtain rfl : j = 0 := by simp at hj; omega
            exact World.cell?_alloc_mark wr _ _ _ 0)
        have HE : Hid (digS t 1 = if t.testBit 0 then digS t 0 ++ ⟨#[48]⟩ else digS t 0) := rfl
        cases ht2 : t.testBit 0
        · rw [ht2] at CH HE
          replace CH : Hid (∀ w' : World, Calls Tryd.prog 46 #[.int .i64 t, .int .i64 0] w' fun e w'' => e = .returned (.int .i64 0) ∧ w' = w'') := CH
          replace HE := Lib.hid (HE.out.trans (if_neg (by decide)))
          clear ht2
          go_wp2_with fail
          refine (CH.out _).mono ?_
          rintro e w1 ⟨rfl, rfl⟩
          go_wp2
          go_roundw
          case rel => exact Lib.hid ⟨1, by omega, rfl, by rw [HE.out], HX.out⟩
          case measure => simp [intOf]
        · rw [ht2] at CH HE
          replace CH : Hid (∀ w' : World, Calls Tryd.prog 46 #[.int .i64 t, .int .i64 0] w' fun e w'' => e = .returned (.int .i64 1) ∧ w' = w'') := CH
          replace HE := Lib.hid (HE.out.trans (if_pos rfl))
          clear ht2
          go_wp2_with fail
          refine (CH.out _).mono ?_
          rintro e w1 ⟨rfl, rfl⟩
          go_wp2
          go_roundw
          case rel => exact Lib.hid ⟨1, by omega, rfl, by rw [HE.out], HX.out.trans (by (repeat (first | exact Ext.refl _ | assumption | refine Ext.alloc ?_ _ | refine Ext.drewN ?_ _ | refine Ext.drew ?_)))⟩
          case measure => simp [intOf]
      case inr.inl =>
        rw [show ((1 : Nat) : Int) = 1 from rfl]
        have CH : Hid (∀ w' : World, Calls Tryd.prog 46 #[.int .i64 t, .int .i64 1] w' fun e w'' => e = .returned (.int .i64 ((t.testBit 1).toNat : Nat)) ∧ w' = w'') := fun w' => l1Bit_c t 1 w' (by omega) (by omega)
        have hadd : ∀ W : World, (Op.stringOp .add (digS t 1) ⟨#[49]⟩).run Tryd.prog W = .ok (.string (digS t 1 ++ ⟨#[49]⟩)) W := fun W => run_string_add_sum (P := Tryd.prog) W (digS t 1) ⟨#[49]⟩ (by have : (⟨#[49]⟩ : ByteArray).size = 1 := rfl; omega)
        have hcv : (convert 27 9 (.slice (some ⟨wr.heap.size, 0, none⟩) 1 1)).run Tryd.prog (wr.alloc (.cells #[.int .u8 49] 5)) = .ok (.string ⟨#[49]⟩) (wr.alloc (.cells #[.int .u8 49] 5)) := by
          exact run_convert_bytes_back _ _ _ 5 ⟨wr.heap.size, 0, none⟩ 1 [49] Tryd.underlying27 Tryd.underlying5 Tryd.underlying9 (fun j hj => by
            obtain rfl : j = 0 := by simp at hj; omega
            exact World.cell?_alloc_mark wr _ _ _ 0)
        have HE : Hid (digS t 2 = if t.testBit 1 then digS t 1 ++ ⟨#[49]⟩ else digS t 1) := rfl
        cases ht2 : t.testBit 1
        · rw [ht2] at CH HE
          replace CH : Hid (∀ w' : World, Calls Tryd.prog 46 #[.int .i64 t, .int .i64 1] w' fun e w'' => e = .returned (.int .i64 0) ∧ w' = w'') := CH
          replace HE := Lib.hid (HE.out.trans (if_neg (by decide)))
          clear ht2
          go_wp2_with fail
          refine (CH.out _).mono ?_
          rintro e w1 ⟨rfl, rfl⟩
          go_wp2
          go_roundw
          case rel => exact Lib.hid ⟨2, by omega, rfl, by rw [HE.out], HX.out⟩
          case measure => simp [intOf]
        · rw [ht2] at CH HE
          replace CH : Hid (∀ w' : World, Calls Tryd.prog 46 #[.int .i64 t, .int .i64 1] w' fun e w'' => e = .returned (.int .i64 1) ∧ w' = w'') := CH
          replace HE := Lib.hid (HE.out.trans (if_pos rfl))
          clear ht2
          go_wp2_with fail
          refine (CH.out _).mono ?_
          rintro e w1 ⟨rfl, rfl⟩
          go_wp2
          go_roundw
          case rel => exact Lib.hid ⟨2, by omega, rfl, by rw [HE.out], HX.out.trans (by (repeat (first | exact Ext.refl _ | assumption | refine Ext.alloc ?_ _ | refine Ext.drewN ?_ _ | refine Ext.drew ?_)))⟩
          case measure => simp [intOf]
      case inr.inr.inl =>
        rw [show ((2 : Nat) : Int) = 2 from rfl]
        have CH : Hid (∀ w' : World, Calls Tryd.prog 46 #[.int .i64 t, .int .i64 2] w' fun e w'' => e = .returned (.int .i64 ((t.testBit 2).toNat : Nat)) ∧ w' = w'') := fun w' => l1Bit_c t 2 w' (by omega) (by omega)
        have hadd : ∀ W : World, (Op.stringOp .add (digS t 2) ⟨#[50]⟩).run Tryd.prog W = .ok (.string (digS t 2 ++ ⟨#[50]⟩)) W := fun W => run_string_add_sum (P := Tryd.prog) W (digS t 2) ⟨#[50]⟩ (by have : (⟨#[50]⟩ : ByteArray).size = 1 := rfl; omega)
        have hcv : (convert 27 9 (.slice (some ⟨wr.heap.size, 0, none⟩) 1 1)).run Tryd.prog (wr.alloc (.cells #[.int .u8 50] 5)) = .ok (.string ⟨#[50]⟩) (wr.alloc (.cells #[.int .u8 50] 5)) := by
          exact run_convert_bytes_back _ _ _ 5 ⟨wr.heap.size, 0, none⟩ 1 [50] Tryd.underlying27 Tryd.underlying5 Tryd.underlying9 (fun j hj => by
            obtain rfl : j = 0 := by simp at hj; omega
            exact World.cell?_alloc_mark wr _ _ _ 0)
        have HE : Hid (digS t 3 = if t.testBit 2 then digS t 2 ++ ⟨#[50]⟩ else digS t 2) := rfl
        cases ht2 : t.testBit 2
        · rw [ht2] at CH HE
          replace CH : Hid (∀ w' : World, Calls Tryd.prog 46 #[.int .i64 t, .int .i64 2] w' fun e w'' => e = .returned (.int .i64 0) ∧ w' = w'') := CH
          replace HE := Lib.hid (HE.out.trans (if_neg (by decide)))
          clear ht2
          go_wp2_with fail
          refine (CH.out _).mono ?_
          rintro e w1 ⟨rfl, rfl⟩
          go_wp2
          go_roundw
          case rel => exact Lib.hid ⟨3, by omega, rfl, by rw [HE.out], HX.out⟩
          case measure => simp [intOf]
        · rw [ht2] at CH HE
          replace CH : Hid (∀ w' : World, Calls Tryd.prog 46 #[.int .i64 t, .int .i64 2] w' fun e w'' => e = .returned (.int .i64 1) ∧ w' = w'') := CH
          replace HE := Lib.hid (HE.out.trans (if_pos rfl))
          clear ht2
          go_wp2_with fail
          refine (CH.out _).mono ?_
          rintro e w1 ⟨rfl, rfl⟩
          go_wp2
          go_roundw
          case rel => exact Lib.hid ⟨3, by omega, rfl, by rw [HE.out], HX.out.trans (by (repeat (first | exact Ext.refl _ | assumption | refine Ext.alloc ?_ _ | refine Ext.drewN ?_ _ | refine Ext.drew ?_)))⟩
          case measure => simp [intOf]
      case inr.inr.inr.inl =>
        rw [show ((3 : Nat) : Int) = 3 from rfl]
        have CH : Hid (∀ w' : World, Calls Tryd.prog 46 #[.int .i64 t, .int .i64 3] w' fun e w'' => e = .returned (.int .i64 ((t.testBit 3).toNat : Nat)) ∧ w' = w'') := fun w' => l1Bit_c t 3 w' (by omega) (by omega)
        have hadd : ∀ W : World, (Op.stringOp .add (digS t 3) ⟨#[51]⟩).run Tryd.prog W = .ok (.string (digS t 3 ++ ⟨#[51]⟩)) W := fun W => run_string_add_sum (P := Tryd.prog) W (digS t 3) ⟨#[51]⟩ (by have : (⟨#[51]⟩ : ByteArray).size = 1 := rfl; omega)
        have hcv : (convert 27 9 (.slice (some ⟨wr.heap.size, 0, none⟩) 1 1)).run Tryd.prog (wr.alloc (.cells #[.int .u8 51] 5)) = .ok (.string ⟨#[51]⟩) (wr.alloc (.cells #[.int .u8 51] 5)) := by
          exact run_convert_bytes_back _ _ _ 5 ⟨wr.heap.size, 0, none⟩ 1 [51] Tryd.underlying27 Tryd.underlying5 Tryd.underlying9 (fun j hj => by
            obtain rfl : j = 0 := by simp at hj; omega
            exact World.cell?_alloc_mark wr _ _ _ 0)
        have HE : Hid (digS t 4 = if t.testBit 3 then digS t 3 ++ ⟨#[51]⟩ else digS t 3) := rfl
        cases ht2 : t.testBit 3
        · rw [ht2] at CH HE
          replace CH : Hid (∀ w' : World, Calls Tryd.prog 46 #[.int .i64 t, .int .i64 3] w' fun e w'' => e = .returned (.int .i64 0) ∧ w' = w'') := CH
          replace HE := Lib.hid (HE.out.trans (if_neg (by decide)))
          clear ht2
          go_wp2_with fail
          refine (CH.out _).mono ?_
          rintro e w1 ⟨rfl, rfl⟩
          go_wp2
          go_roundw
          case rel => exact Lib.hid ⟨4, by omega, rfl, by rw [HE.out], HX.out⟩
          case measure => simp [intOf]
        · rw [ht2] at CH HE
          replace CH : Hid (∀ w' : World, Calls Tryd.prog 46 #[.int .i64 t, .int .i64 3] w' fun e w'' => e = .returned (.int .i64 1) ∧ w' = w'') := CH
          replace HE := Lib.hid (HE.out.trans (if_pos rfl))
          clear ht2
          go_wp2_with fail
          refine (CH.out _).mono ?_
          rintro e w1 ⟨rfl, rfl⟩
          go_wp2
          go_roundw
          case rel => exact Lib.hid ⟨4, by omega, rfl, by rw [HE.out], HX.out.trans (by (repeat (first | exact Ext.refl _ | assumption | refine Ext.alloc ?_ _ | refine Ext.drewN ?_ _ | refine Ext.drew ?_)))⟩
          case measure => simp [intOf]
end Go.Proofs.YtcjnihhinnedkaaDoor
