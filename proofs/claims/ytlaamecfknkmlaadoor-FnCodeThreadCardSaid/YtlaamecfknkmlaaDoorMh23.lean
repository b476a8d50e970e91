/- Merged texts: contracts and plain lemmas (Cb). -/
import Derived.Test.YtlaamecfknkmlaaDoorMh21
import Derived.Test.YtlaamecfknkmlaaDoorMh22
/- Contracts: validity of codes. -/
namespace Go.Proofs.YtlaamecfknkmlaaDoor
set_option linter.unusedVariables false
open Go.RowKit Go.Kt

theorem iTestValid_c (t : Int) (w : World) :
    Calls Tryd.prog 43 #[.int .i64 t] w fun e w' => e = .returned (.bool (inB t 0 15)) ∧ w = w' := by
  by_cases h1 : 0 ≤ t
  all_goals
    go_enter Tryd.func43, Tryd.ntmps43
    go_wp2
    go_ret
    exact ⟨by simp [inB, h1]; try omega, rfl⟩
theorem sTestValid_c (t : Int) (w : World) :
    Calls Tryd.prog 35 #[.int .i64 t] w fun e w' => e = .returned (.bool (inB t 0 15)) ∧ w = w' := by
  go_enter Tryd.func35, Tryd.ntmps35
  go_wp2_with (go_at_call 34; refine (l1In_c _ _ _ _).mono ?_; rintro e w' ⟨rfl, rfl⟩)
  go_ret
  exact ⟨rfl, rfl⟩
theorem isAct_c (t : Int) (w : World) :
    Calls Tryd.prog 42 #[.int .i64 t] w fun e w' => e = .returned (.bool (inB t 16 18)) ∧ w = w' := by
  by_cases h1 : 16 ≤ t
  all_goals
    go_enter Tryd.func42, Tryd.ntmps42
    go_wp2
    go_ret
    exact ⟨by simp [inB, h1]; try omega, rfl⟩
theorem insB_0 (n : Nat) (A T : Int) : insB n 0 A T = (inB A 16 18 && T == 0) := by
  rw [Bool.eq_iff_iff]; simp [insB, inB]
theorem insB_1 (n : Nat) (A T : Int) : insB n 1 A T = (inB A 0 15 && inB T 0 (n - 1)) := by
  rw [Bool.eq_iff_iff]; simp [insB, inB]; omega
theorem insB_2 (n : Nat) (A T : Int) : insB n 2 A T = (A == 0 && inB T 0 (n - 1)) := by
  rw [Bool.eq_iff_iff]; simp [insB, inB]; omega
theorem insB_3 (n : Nat) (A T : Int) : insB n 3 A T = (A == 0 && T == 0) := by
  rw [Bool.eq_iff_iff]; simp [insB]
theorem insB_else (n : Nat) (K A T : Int) (h0 : K ≠ 0) (h1 : K ≠ 1) (h2 : K ≠ 2) (h3 : K ≠ 3) : insB n K A T = false := by
  simp [insB, h0, h1, h2, h3]
set_option maxRecDepth 100000 in
set_option maxHeartbeats 2000000 in
theorem sCodeValid_c (a : Option Addr) (n cap : Nat) (L : List Int) (w : World) (hl : FlatAt w a n L) (hlen : n ≤ 4194304) :
    Calls Tryd.prog 16 #[.slice a n cap] w fun e w' => e = .returned (.bool (cvB n L)) ∧ Ext w w' := by
  have HL := Lib.hid hl
  clear hl
  go_enter Tryd.func16, Tryd.ntmps16
  go_wp2
  go_loopw [3] (fun i wr => Hid (∃ k : Nat, k ≤ n ∧ i = .int .i64 k ∧ (∀ j, j < k → insB n (kd L j) (ag L j) (tg L j) = true) ∧ Ext w wr)) (fun i _ => n - (intOf i).toNat)
  case atStart => exact Lib.hid ⟨0, Nat.zero_le _, rfl, fun j hj => absurd hj (Nat.not_lt_zero _), Ext.refl _⟩
  case round =>
    obtain ⟨k, hk, rfl, hno, hx⟩ := hrel.out
    have HD := Lib.hid hno
    have HX := Lib.hid hx
    clear hrel hno
    by_cases hlt : k < n
    · obtain ⟨b, off, rfl, hb, hc⟩ := (HL.out.ext hx).cells (by omega)
      obtain ⟨c0, c1, c2⟩ := hc k hlt
      have hbad : Hid (insB n (kd L k) (ag L k) (tg L k) = false → cvB n L = false) := fun h => cvB_not hlt h
      have hgood : Hid (insB n (kd L k) (ag L k) (tg L k) = true → ∀ j, j < k + 1 → insB n (kd L j) (ag L j) (tg L j) = true) := fun h => upto_succ HD.out h
      unfold kd ag tg at hbad hgood
      clear hc hx
      generalize nth L (k * 3) = K at *
      generalize nth L (k * 3 + 1) = A at *
      generalize nth L (k * 3 + 2) = T at *
      by_cases h0 : K = 0
      · subst h0
        rw [insB_0] at hbad hgood
        cases hA : inB A 16 18
        all_goals cases hT : (T == 0)
        all_goals
          rw [hA, hT] at hbad hgood
          go_wp2_with (go_at_call 34; refine (l1In_c _ _ _ _).mono ?_; rintro e w' ⟨rfl, rfl⟩)
          first
            | (go_ret
               exact ⟨by rw [hbad.out rfl]; rfl, HX.out.trans (by (repeat (first | exact Ext.refl _ | assumption | refine Ext.alloc ?_ _ | refine Ext.drewN ?_ _ | refine Ext.drew ?_)))⟩)
            | (go_roundw
               case rel => exact Lib.hid ⟨k + 1, by omega, by go_num, hgood.out rfl, HX.out.trans (by (repeat (first | exact Ext.refl _ | assumption | refine Ext.alloc ?_ _ | refine Ext.drewN ?_ _ | refine Ext.drew ?_)))⟩
               case measure => simp [intOf]; omega)
      · by_cases h1 : K = 1
        · subst h1
          rw [insB_1] at hbad hgood
          cases hA : inB A 0 15
          all_goals cases hT : inB T 0 ((n : Int) - 1)
          all_goals
            rw [hA, hT] at hbad hgood
            go_wp2_with (first | (go_at_call 34; refine (l1In_c _ _ _ _).mono ?_; rintro e w' ⟨rfl, rfl⟩) | (go_at_call 35; refine (sTestValid_c _ _).mono ?_; rintro e w' ⟨rfl, rfl⟩))
            first
              | (go_ret
                 exact ⟨by rw [hbad.out rfl]; rfl, HX.out.trans (by (repeat (first | exact Ext.refl _ | assumption | refine Ext.alloc ?_ _ | refine Ext.drewN ?_ _ | refine Ext.drew ?_)))⟩)
              | (go_roundw
                 case rel => exact Lib.hid ⟨k + 1, by omega, by go_num, hgood.out rfl, HX.out.trans (by (repeat (first | exact Ext.refl _ | assumption | refine Ext.alloc ?_ _ | refine Ext.drewN ?_ _ | refine Ext.drew ?_)))⟩
                 case measure => simp [intOf]; omega)
        · by_cases h2 : K = 2
          · subst h2
            rw [insB_2] at hbad hgood
            have hA2 : (A != 0) = !(A == 0) := rfl
            cases hA : (A == 0)
            all_goals cases hT : inB T 0 ((n : Int) - 1)
            all_goals
              rw [hA, hT] at hbad hgood
              rw [hA] at hA2
              simp only [Bool.not_true, Bool.not_false] at hA2
              go_wp2_with (go_at_call 34; refine (l1In_c _ _ _ _).mono ?_; rintro e w' ⟨rfl, rfl⟩)
              first
                | (go_ret
                   exact ⟨by rw [hbad.out rfl]; rfl, HX.out.trans (by (repeat (first | exact Ext.refl _ | assumption | refine Ext.alloc ?_ _ | refine Ext.drewN ?_ _ | refine Ext.drew ?_)))⟩)
                | (go_roundw
                   case rel => exact Lib.hid ⟨k + 1, by omega, by go_num, hgood.out rfl, HX.out.trans (by (repeat (first | exact Ext.refl _ | assumption | refine Ext.alloc ?_ _ | refine Ext.drewN ?_ _ | refine Ext.drew ?_)))⟩
                   case measure => simp [intOf]; omega)
          · by_cases h3 : K = 3
            · subst h3
              rw [insB_3] at hbad hgood
              cases hA : (A == 0)
              all_goals cases hT : (T == 0)
              all_goals
                rw [hA, hT] at hbad hgood
                go_wp2_with (go_at_call 34; refine (l1In_c _ _ _ _).mono ?_; rintro e w' ⟨rfl, rfl⟩)
                first
                  | (go_ret
                     exact ⟨by rw [hbad.out rfl]; rfl, HX.out.trans (by (repeat (first | exact Ext.refl _ | assumption | refine Ext.alloc ?_ _ | refine Ext.drewN ?_ _ | refine Ext.drew ?_)))⟩)
                  | (go_roundw
                     case rel => exact Lib.hid ⟨k + 1, by omega, by go_num, hgood.out rfl, HX.out.trans (by (repeat (first | exact Ext.refl _ | assumption | refine Ext.alloc ?_ _ | refine Ext.drewN ?_ _ | refine Ext.drew ?_)))⟩
                     case measure => simp [intOf]; omega)
            · have hb := hbad.out (insB_else n K A T h0 h1 h2 h3)
              have e3 : (K == 3) = false := by simp [h3]
              go_wp2_with (go_at_call 34; refine (l1In_c _ _ _ _).mono ?_; rintro e w' ⟨rfl, rfl⟩)
              go_ret
              exact ⟨by rw [hb]; rfl, HX.out.trans (by (repeat (first | exact Ext.refl _ | assumption | refine Ext.alloc ?_ _ | refine Ext.drewN ?_ _ | refine Ext.drew ?_)))⟩
    · obtain rfl : k = n := by omega
      by_cases hn : 1 ≤ k ∧ k ≤ 40
      · obtain ⟨hn1, hn2⟩ := hn
        have hcv := cvB_all hn1 hn2 HD.out
        have hin : inB (k : Int) 1 40 = true := by simp [inB]; omega
        obtain ⟨b, off, rfl, hb, hc⟩ := (HL.out.ext hx).cells (by omega)
        obtain ⟨c0, -, -⟩ := hc (k - 1) (by omega)
        have hk1 : IntKind.i64.wrap ((k : Int) - 1) = ((k - 1 : Nat) : Int) := by rw [IntWalk.i64_in _ (by omega)]; omega
        unfold kd at hcv
        have HCV := Lib.hid hcv
        clear hc hx hcv
        generalize nth L ((k - 1) * 3) = K at *
        go_wp2_with (go_at_call 34; refine (l1In_c _ _ _ _).mono ?_; rintro e w' ⟨rfl, rfl⟩)
        go_ret
        exact ⟨by rw [HCV.out]; rfl, HX.out.trans (by (repeat (first | exact Ext.refl _ | assumption | refine Ext.alloc ?_ _ | refine Ext.drewN ?_ _ | refine Ext.drew ?_)))⟩
      · have hin : inB (k : Int) 1 40 = false := by simp [inB]; omega
        have hcv := cvB_out (L := L) hn
        clear hn
        go_wp2_with (go_at_call 34; refine (l1In_c _ _ _ _).mono ?_; rintro e w' ⟨rfl, rfl⟩)
        go_ret
        exact ⟨by rw [hcv]; rfl, HX.out.trans (by (repeat (first | exact Ext.refl _ | assumption | refine Ext.alloc ?_ _ | refine Ext.drewN ?_ _ | refine Ext.drew ?_)))⟩
set_option maxRecDepth 100000 in
set_option maxHeartbeats 2000000 in
theorem iCodeValid_c (a : Option Addr) (n cap : Nat) (L : List Int) (w : World) (hl : FlatAt w a n L) (hlen : n ≤ 4194304) :
    Calls Tryd.prog 19 #[.slice a n cap] w fun e w' => e = .returned (.bool (cvB n L)) ∧ Ext w w' := by
  by_cases hn : 1 ≤ n ∧ n ≤ 40
  · have HL := Lib.hid hl
    obtain ⟨hn1, hn2⟩ := hn
    clear hl
    have hb1 : decide ((n : Int) < 1) = false := by simp; omega
    have hb2 : decide ((40 : Int) < (n : Int)) = false := by simp; omega
    go_enter Tryd.func19, Tryd.ntmps19
    go_wp2
    go_loopw [18] (fun i wr => Hid (∃ k : Nat, k ≤ n ∧ i = .int .i64 k ∧ (∀ j, j < k → insB n (kd L j) (ag L j) (tg L j) = true) ∧ Ext w wr)) (fun i _ => n - (intOf i).toNat)
    case atStart => exact Lib.hid ⟨0, Nat.zero_le _, rfl, fun j hj => absurd hj (Nat.not_lt_zero _), Ext.refl _⟩
    case round =>
      obtain ⟨k, hk, rfl, hno, hx⟩ := hrel.out
      have HD := Lib.hid hno
      have HX := Lib.hid hx
      clear hrel hno
      by_cases hlt : k < n
      · obtain ⟨b, off, rfl, hb, hc⟩ := (HL.out.ext hx).cells (by omega)
        obtain ⟨c0, c1, c2⟩ := hc k hlt
        have hbad : Hid (insB n (kd L k) (ag L k) (tg L k) = false → cvB n L = false) := fun h => cvB_not hlt h
        have hgood : Hid (insB n (kd L k) (ag L k) (tg L k) = true → ∀ j, j < k + 1 → insB n (kd L j) (ag L j) (tg L j) = true) := fun h => upto_succ HD.out h
        unfold kd ag tg at hbad hgood
        clear hc hx
        generalize nth L (k * 3) = K at *
        generalize nth L (k * 3 + 1) = A at *
        generalize nth L (k * 3 + 2) = T at *
        by_cases h0 : K = 0
        · subst h0
          rw [insB_0] at hbad hgood
          by_cases hz : T = 0
          · subst hz
            have hT : ((0 : Int) == 0) = true := rfl
            have hTn : (0 : Int) < (n : Int) := by omega
            cases hA : inB A 16 18
            all_goals
              rw [hA, hT] at hbad hgood
              go_wp2_with (first | (go_at_call 42; refine (isAct_c _ _).mono ?_; rintro e w' ⟨rfl, rfl⟩) | (go_at_call 43; refine (iTestValid_c _ _).mono ?_; rintro e w' ⟨rfl, rfl⟩))
              first
                | (go_ret
                   exact ⟨by rw [hbad.out rfl]; rfl, HX.out.trans (by (repeat (first | exact Ext.refl _ | assumption | refine Ext.alloc ?_ _ | refine Ext.drewN ?_ _ | refine Ext.drew ?_)))⟩)
                | (go_roundw
                   case rel => exact Lib.hid ⟨k + 1, by omega, by go_num, hgood.out rfl, HX.out.trans (by (repeat (first | exact Ext.refl _ | assumption | refine Ext.alloc ?_ _ | refine Ext.drewN ?_ _ | refine Ext.drew ?_)))⟩
                   case measure => simp [intOf]; omega)
          · have hT : (T == 0) = false := by simp [hz]
            by_cases hT0 : 0 ≤ T
            all_goals by_cases hTn : T < (n : Int)
            all_goals try (exfalso; omega)
            all_goals cases hA : inB A 16 18
            all_goals
              rw [hA, hT] at hbad hgood
              go_wp2_with (first | (go_at_call 42; refine (isAct_c _ _).mono ?_; rintro e w' ⟨rfl, rfl⟩) | (go_at_call 43; refine (iTestValid_c _ _).mono ?_; rintro e w' ⟨rfl, rfl⟩))
              first
                | (go_ret
                   exact ⟨by rw [hbad.out rfl]; rfl, HX.out.trans (by (repeat (first | exact Ext.refl _ | assumption | refine Ext.alloc ?_ _ | refine Ext.drewN ?_ _ | refine Ext.drew ?_)))⟩)
                | (go_roundw
                   case rel => exact Lib.hid ⟨k + 1, by omega, by go_num, hgood.out rfl, HX.out.trans (by (repeat (first | exact Ext.refl _ | assumption | refine Ext.alloc ?_ _ | refine Ext.drewN ?_ _ | refine Ext.drew ?_)))⟩
                   case measure => simp [intOf]; omega)
        · by_cases h1 : K = 1
          · subst h1
            rw [insB_1] at hbad hgood
            cases hG : inB T 0 ((n : Int) - 1)
            · have hG' : ¬ (0 ≤ T ∧ T ≤ (n : Int) - 1) := by simpa [inB] using hG
              by_cases hT0 : 0 ≤ T
              · have hTn : ¬ T < (n : Int) := by omega
                clear hG'
                cases hA : inB A 0 15
                all_goals
                  rw [hA, hG] at hbad hgood
                  go_wp2_with (first | (go_at_call 42; refine (isAct_c _ _).mono ?_; rintro e w' ⟨rfl, rfl⟩) | (go_at_call 43; refine (iTestValid_c _ _).mono ?_; rintro e w' ⟨rfl, rfl⟩))
                  first
                    | (go_ret
                       exact ⟨by rw [hbad.out rfl]; rfl, HX.out.trans (by (repeat (first | exact Ext.refl _ | assumption | refine Ext.alloc ?_ _ | refine Ext.drewN ?_ _ | refine Ext.drew ?_)))⟩)
                    | (go_roundw
                       case rel => exact Lib.hid ⟨k + 1, by omega, by go_num, hgood.out rfl, HX.out.trans (by (repeat (first | exact Ext.refl _ | assumption | refine Ext.alloc ?_ _ | refine Ext.drewN ?_ _ | refine Ext.drew ?_)))⟩
                       case measure => simp [intOf]; omega)
              · clear hG'
                cases hA : inB A 0 15
                all_goals
                  rw [hA, hG] at hbad hgood
                  go_wp2_with (first | (go_at_call 42; refine (isAct_c _ _).mono ?_; rintro e w' ⟨rfl, rfl⟩) | (go_at_call 43; refine (iTestValid_c _ _).mono ?_; rintro e w' ⟨rfl, rfl⟩))
                  first
                    | (go_ret
                       exact ⟨by rw [hbad.out rfl]; rfl, HX.out.trans (by (repeat (first | exact Ext.refl _ | assumption | refine Ext.alloc ?_ _ | refine Ext.drewN ?_ _ | refine Ext.drew ?_)))⟩)
                    | (go_roundw
                       case rel => exact Lib.hid ⟨k + 1, by omega, by go_num, hgood.out rfl, HX.out.trans (by (repeat (first | exact Ext.refl _ | assumption | refine Ext.alloc ?_ _ | refine Ext.drewN ?_ _ | refine Ext.drew ?_)))⟩
                       case measure => simp [intOf]; omega)
            · obtain ⟨hT0, hTn'⟩ : 0 ≤ T ∧ T ≤ (n : Int) - 1 := by simpa [inB] using hG
              have hTn : T < (n : Int) := by omega
              clear hTn'
              cases hA : inB A 0 15
              all_goals
                rw [hA, hG] at hbad hgood
                go_wp2_with (first | (go_at_call 42; refine (isAct_c _ _).mono ?_; rintro e w' ⟨rfl, rfl⟩) | (go_at_call 43; refine (iTestValid_c _ _).mono ?_; rintro e w' ⟨rfl, rfl⟩))
                first
                  | (go_ret
                     exact ⟨by rw [hbad.out rfl]; rfl, HX.out.trans (by (repeat (first | exact Ext.refl _ | assumption | refine Ext.alloc ?_ _ | refine Ext.drewN ?_ _ | refine Ext.drew ?_)))⟩)
                  | (go_roundw
                     case rel => exact Lib.hid ⟨k + 1, by omega, by go_num, hgood.out rfl, HX.out.trans (by (repeat (first | exact Ext.refl _ | assumption | refine Ext.alloc ?_ _ | refine Ext.drewN ?_ _ | refine Ext.drew ?_)))⟩
                     case measure => simp [intOf]; omega)
          · by_cases h2 : K = 2
            · subst h2
              rw [insB_2] at hbad hgood
              cases hG : inB T 0 ((n : Int) - 1)
              · have hG' : ¬ (0 ≤ T ∧ T ≤ (n : Int) - 1) := by simpa [inB] using hG
                by_cases hT0 : 0 ≤ T
                · have hTn : ¬ T < (n : Int) := by omega
                  clear hG'
                  cases hA : (A == 0)
                  all_goals
                    rw [hA, hG] at hbad hgood
                    go_wp2_with (first | (go_at_call 42; refine (isAct_c _ _).mono ?_; rintro e w' ⟨rfl, rfl⟩) | (go_at_call 43; refine (iTestValid_c _ _).mono ?_; rintro e w' ⟨rfl, rfl⟩))
                    first
                      | (go_ret
                         exact ⟨by rw [hbad.out rfl]; rfl, HX.out.trans (by (repeat (first | exact Ext.refl _ | assumption | refine Ext.alloc ?_ _ | refine Ext.drewN ?_ _ | refine Ext.drew ?_)))⟩)
                      | (go_roundw
                         case rel => exact Lib.hid ⟨k + 1, by omega, by go_num, hgood.out rfl, HX.out.trans (by (repeat (first | exact Ext.refl _ | assumption | refine Ext.alloc ?_ _ | refine Ext.drewN ?_ _ | refine Ext.drew ?_)))⟩
                         case measure => simp [intOf]; omega)
                · clear hG'
                  cases hA : (A == 0)
                  all_goals
                    rw [hA, hG] at hbad hgood
                    go_wp2_with (first | (go_at_call 42; refine (isAct_c _ _).mono ?_; rintro e w' ⟨rfl, rfl⟩) | (go_at_call 43; refine (iTestValid_c _ _).mono ?_; rintro e w' ⟨rfl, rfl⟩))
                    first
                      | (go_ret
                         exact ⟨by rw [hbad.out rfl]; rfl, HX.out.trans (by (repeat (first | exact Ext.refl _ | assumption | refine Ext.alloc ?_ _ | refine Ext.drewN ?_ _ | refine Ext.drew ?_)))⟩)
                      | (go_roundw
                         case rel => exact Lib.hid ⟨k + 1, by omega, by go_num, hgood.out rfl, HX.out.trans (by (repeat (first | exact Ext.refl _ | assumption | refine Ext.alloc ?_ _ | refine Ext.drewN ?_ _ | refine Ext.drew ?_)))⟩
                         case measure => simp [intOf]; omega)
              · obtain ⟨hT0, hTn'⟩ : 0 ≤ T ∧ T ≤ (n : Int) - 1 := by simpa [inB] using hG
                have hTn : T < (n : Int) := by omega
                clear hTn'
                cases hA : (A == 0)
                all_goals
                  rw [hA, hG] at hbad hgood
                  go_wp2_with (first | (go_at_call 42; refine (isAct_c _ _).mono ?_; rintro e w' ⟨rfl, rfl⟩) | (go_at_call 43; refine (iTestValid_c _ _).mono ?_; rintro e w' ⟨rfl, rfl⟩))
                  first
                    | (go_ret
                       exact ⟨by rw [hbad.out rfl]; rfl, HX.out.trans (by (repeat (first | exact Ext.refl _ | assumption | refine Ext.alloc ?_ _ | refine Ext.drewN ?_ _ | refine Ext.drew ?_)))⟩)
                    | (go_roundw
                       case rel => exact Lib.hid ⟨k + 1, by omega, by go_num, hgood.out rfl, HX.out.trans (by (repeat (first | exact Ext.refl _ | assumption | refine Ext.alloc ?_ _ | refine Ext.drewN ?_ _ | refine Ext.drew ?_)))⟩
                       case measure => simp [intOf]; omega)
            · by_cases h3 : K = 3
              · subst h3
                rw [insB_3] at hbad hgood
                by_cases hz : T = 0
                · subst hz
                  have hT : ((0 : Int) == 0) = true := rfl
                  have hTn : (0 : Int) < (n : Int) := by omega
                  cases hA : (A == 0)
                  all_goals
                    rw [hA, hT] at hbad hgood
                    go_wp2_with (first | (go_at_call 42; refine (isAct_c _ _).mono ?_; rintro e w' ⟨rfl, rfl⟩) | (go_at_call 43; refine (iTestValid_c _ _).mono ?_; rintro e w' ⟨rfl, rfl⟩))
                    first
                      | (go_ret
                         exact ⟨by rw [hbad.out rfl]; rfl, HX.out.trans (by (repeat (first | exact Ext.refl _ | assumption | refine Ext.alloc ?_ _ | refine Ext.drewN ?_ _ | refine Ext.drew ?_)))⟩)
                      | (go_roundw
                         case rel => exact Lib.hid ⟨k + 1, by omega, by go_num, hgood.out rfl, HX.out.trans (by (repeat (first | exact Ext.refl _ | assumption | refine Ext.alloc ?_ _ | refine Ext.drewN ?_ _ | refine Ext.drew ?_)))⟩
                         case measure => simp [intOf]; omega)
                · have hT : (T == 0) = false := by simp [hz]
                  by_cases hT0 : 0 ≤ T
                  all_goals by_cases hTn : T < (n : Int)
                  all_goals try (exfalso; omega)
                  all_goals cases hA : (A == 0)
                  all_goals
                    rw [hA, hT] at hbad hgood
                    go_wp2_with (first | (go_at_call 42; refine (isAct_c _ _).mono ?_; rintro e w' ⟨rfl, rfl⟩) | (go_at_call 43; refine (iTestValid_c _ _).mono ?_; rintro e w' ⟨rfl, rfl⟩))
                    first
                      | (go_ret
                         exact ⟨by rw [hbad.out rfl]; rfl, HX.out.trans (by (repeat (first | exact Ext.refl _ | assumption | refine Ext.alloc ?_ _ | refine Ext.drewN ?_ _ | refine Ext.drew ?_)))⟩)
                      | (go_roundw
                         case rel => exact Lib.hid ⟨k + 1, by omega, by go_num, hgood.out rfl, HX.out.trans (by (repeat (first | exact Ext.refl _ | assumption | refine Ext.alloc ?_ _ | refine Ext.drewN ?_ _ | refine Ext.drew ?_)))⟩
                         case measure => simp [intOf]; omega)
              · have hb := hbad.out (insB_else n K A T h0 h1 h2 h3)
                have e0 : (K == 0) = false := by simp [h0]
                have e1 : (K == 1) = false := by simp [h1]
                have e2 : (K == 2) = false := by simp [h2]
                have e3 : (K == 3) = false := by simp [h3]
                by_cases hT0 : 0 ≤ T
                all_goals by_cases hTn : T < (n : Int)
                all_goals try (exfalso; omega)
                all_goals
                  go_wp2
                all_goals
                  go_ret
                  exact ⟨by first | rfl | (rw [hb]; rfl), HX.out.trans (by (repeat (first | exact Ext.refl _ | assumption | refine Ext.alloc ?_ _ | refine Ext.drewN ?_ _ | refine Ext.drew ?_)))⟩
      · obtain rfl : k = n := by omega
        have hcv := cvB_all hn1 hn2 HD.out
        obtain ⟨b, off, rfl, hb, hc⟩ := (HL.out.ext hx).cells (by omega)
        obtain ⟨c0, -, -⟩ := hc (k - 1) (by omega)
        have hk1 : IntKind.i64.wrap ((k : Int) - 1) = ((k - 1 : Nat) : Int) := by rw [IntWalk.i64_in _ (by omega)]; omega
        have hkd := insB_kind (HD.out (k - 1) (by omega))
        unfold kd at hcv hkd
        have HCV := Lib.hid hcv
        clear hc hx hcv
        generalize nth L ((k - 1) * 3) = K at *
        by_cases h3 : K = 3
        · subst h3
          go_wp2
          go_ret
          exact ⟨by rw [HCV.out]; rfl, HX.out.trans (by (repeat (first | exact Ext.refl _ | assumption | refine Ext.alloc ?_ _ | refine Ext.drewN ?_ _ | refine Ext.drew ?_)))⟩
        · have h3' : (K == 3) = false := by simp [h3]
          have e2 : decide (2 ≤ K) = (K == 2) := by rw [Bool.eq_iff_iff]; simp; omega
          go_wp2
          go_ret
          exact ⟨by rw [HCV.out, e2]; rfl, HX.out.trans (by (repeat (first | exact Ext.refl _ | assumption | refine Ext.alloc ?_ _ | refine Ext.drewN ?_ _ | refine Ext.drew ?_)))⟩
  · have hcv := cvB_out (L := L) hn
    by_cases hn1 : n < 1
    all_goals
      go_enter Tryd.func19, Tryd.ntmps19
      go_wp2
      go_ret
      exact ⟨by first | rfl | (rw [hcv]; rfl), by (repeat (first | exact Ext.refl _ | assumption | refine Ext.alloc ?_ _ | refine Ext.drewN ?_ _ | refine Ext.drew ?_))⟩
end Go.Proofs.YtlaamecfknkmlaaDoor
