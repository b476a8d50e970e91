/- Merged texts: contracts and plain lemmas (Pa). -/
import Derived.Test.YtlaamecfknkmlaaDoorMh3
import Derived.Test.YtlaamecfknkmlaaDoorMh26
import Derived.Deep.RegionLaw
/- Contracts: validity of programs: the reference. -/
namespace Go.Proofs.YtlaamecfknkmlaaDoor
set_option linter.unusedVariables false
open Go.RowKit Go.Kt

theorem l8Takes_c (x : Int) (w : World) : Calls Tryd.prog 77 #[.int .i64 x] w fun e w' => e = .returned (.int .i64 (tk x)) ∧ w = w' := by
  have H : Hid (tk x = if x = 15 ∨ (16 ≤ x ∧ x ≤ 18) then 0 else if x = 30 ∨ (100 ≤ x ∧ x ≤ 115) then 2 else if 200 ≤ x ∧ x ≤ 215 then 1 else -1) := rfl
  have in1 : inB x 16 18 = decide (16 ≤ x ∧ x ≤ 18) := rfl
  have in2 : inB x 100 115 = decide (100 ≤ x ∧ x ≤ 115) := rfl
  have in3 : inB x 200 215 = decide (200 ≤ x ∧ x ≤ 215) := rfl
  by_cases h1 : x = 15
  · have hv : Hid (tk x = 0) := by unfold Hid; rw [H.out, if_pos (.inl h1)]
    subst h1
    go_enter Tryd.func77, Tryd.ntmps77
    go_wp2_with (go_at_call 34; refine (l1In_c _ _ _ _).mono ?_; rintro e w' ⟨rfl, rfl⟩)
    go_ret
    exact ⟨by rw [hv.out]; rfl, rfl⟩
  · have e1 : (x == 15) = false := by simp [h1]
    by_cases h2 : 16 ≤ x ∧ x ≤ 18
    · have hv : Hid (tk x = 0) := by unfold Hid; rw [H.out, if_pos (.inr h2)]
      rw [decide_eq_true h2] at in1
      clear h2 in2 in3
      go_enter Tryd.func77, Tryd.ntmps77
      go_wp2_with (go_at_call 34; refine (l1In_c _ _ _ _).mono ?_; rintro e w' ⟨rfl, rfl⟩)
      go_ret
      exact ⟨by rw [hv.out]; rfl, rfl⟩
    · rw [decide_eq_false h2] at in1
      by_cases h3 : x = 30
      · have hv : Hid (tk x = 2) := by unfold Hid; rw [H.out, if_neg (by rintro (h | h); exact h1 h; exact h2 h), if_pos (.inl h3)]
        subst h3
        clear h1 h2 in2 in3
        go_enter Tryd.func77, Tryd.ntmps77
        go_wp2_with (go_at_call 34; refine (l1In_c _ _ _ _).mono ?_; rintro e w' ⟨rfl, rfl⟩)
        go_ret
        exact ⟨by rw [hv.out]; rfl, rfl⟩
      · have e3 : (x == 30) = false := by simp [h3]
        by_cases h4 : 100 ≤ x ∧ x ≤ 115
        · have hv : Hid (tk x = 2) := by unfold Hid; rw [H.out, if_neg (by rintro (h | h); exact h1 h; exact h2 h), if_pos (.inr h4)]
          rw [decide_eq_true h4] at in2
          clear h1 h2 h3 h4 in3
          go_enter Tryd.func77, Tryd.ntmps77
          go_wp2_with (go_at_call 34; refine (l1In_c _ _ _ _).mono ?_; rintro e w' ⟨rfl, rfl⟩)
          go_ret
          exact ⟨by rw [hv.out]; rfl, rfl⟩
        · rw [decide_eq_false h4] at in2
          by_cases h5 : 200 ≤ x ∧ x ≤ 215
          · have hv : Hid (tk x = 1) := by unfold Hid; rw [H.out, if_neg (by rintro (h | h); exact h1 h; exact h2 h), if_neg (by rintro (h | h); exact h3 h; exact h4 h), if_pos h5]
            rw [decide_eq_true h5] at in3
            clear h1 h2 h3 h4 h5
            go_enter Tryd.func77, Tryd.ntmps77
            go_wp2_with (go_at_call 34; refine (l1In_c _ _ _ _).mono ?_; rintro e w' ⟨rfl, rfl⟩)
            go_ret
            exact ⟨by rw [hv.out]; rfl, rfl⟩
          · have hv : Hid (tk x = -1) := by unfold Hid; rw [H.out, if_neg (by rintro (h | h); exact h1 h; exact h2 h), if_neg (by rintro (h | h); exact h3 h; exact h4 h), if_neg h5]
            rw [decide_eq_false h5] at in3
            clear h1 h2 h3 h4 h5
            go_enter Tryd.func77, Tryd.ntmps77
            go_wp2_with (go_at_call 34; refine (l1In_c _ _ _ _).mono ?_; rintro e w' ⟨rfl, rfl⟩)
            go_ret
            exact ⟨by rw [hv.out]; rfl, rfl⟩
theorem tk_range (x : Int) : tk x = 0 ∨ tk x = 1 ∨ tk x = 2 ∨ tk x = -1 := by
  unfold tk
  split
  · exact .inl rfl
  · split
    · exact .inr (.inr (.inl rfl))
    · split
      · exact .inr (.inl rfl)
      · exact .inr (.inr (.inr rfl))
set_option maxRecDepth 100000 in
theorem sProgValid_c (a : Option Addr) (cap : Nat) (l : List Int) (w : World) (hl : IntsAt w a l) (hlen : l.length ≤ 4194304) :
    Calls Tryd.prog 73 #[.slice a l.length cap] w fun e w' => e = .returned (.bool (pvB l)) ∧ w = w' := by
  obtain ⟨b, off, h1, h2⟩ := hl
  have H1 := Lib.hid h1
  have H2 := Lib.hid h2
  clear h1 h2
  go_enter Tryd.func73, Tryd.ntmps73
  go_wp2
  go_loop [3, 4] (fun mv i => Hid (∃ k m : Nat, k ≤ l.length ∧ i = .int .i64 k ∧ mv = .int .i64 m ∧ m ≤ k ∧ mny l k = some m)) (fun _ i => l.length - (intOf i).toNat)
  case atStart => exact Lib.hid ⟨0, 0, Nat.zero_le _, rfl, rfl, Nat.le_refl _, rfl⟩
  case round =>
    obtain ⟨k, m, hk, rfl, rfl, hmk, hm⟩ := hrel.out
    clear hrel
    by_cases hlt : k < l.length
    · obtain ⟨rfl, hb⟩ := H1.out (by omega)
      have hc := H2.out k hlt
      have hbad : Hid (tk (nth l k) < 0 ∨ (m : Int) < tk (nth l k) → pvB l = false) := fun h => pvB_none (k := k + 1) (by omega) (mny_bad hm h)
      have hgood : Hid (¬ (tk (nth l k) < 0 ∨ (m : Int) < tk (nth l k)) → mny l (k + 1) = some (m - (tk (nth l k)).toNat + 1)) := fun h => mny_good hm h
      have hr := tk_range (nth l k)
      have hcall : ∀ w0 : World, Calls Tryd.prog 77 #[.int .i64 (nth l k)] w0 fun e w' => e = .returned (.int .i64 (tk (nth l k))) ∧ w0 = w' := fun w0 => l8Takes_c _ w0
      have HC := Lib.hid hcall
      clear hm hcall
      generalize tk (nth l k) = T at *
      generalize nth l k = x at *
      by_cases hT : T < 0 ∨ (m : Int) < T
      · have hv := hbad.out hT
        have HV := Lib.hid hv
        clear hbad hgood hv
        by_cases hT0 : T < 0
        · go_wp2_with (go_at_call 77; refine (HC.out _).mono ?_; rintro e w' ⟨rfl, rfl⟩)
          go_ret
          exact ⟨by rw [HV.out]; rfl, rfl⟩
        · have hmT : (m : Int) < T := by omega
          clear hT
          go_wp2_with (go_at_call 77; refine (HC.out _).mono ?_; rintro e w' ⟨rfl, rfl⟩)
          go_ret
          exact ⟨by rw [HV.out]; rfl, rfl⟩
      · have hg := Lib.hid (hgood.out hT)
        have hT0 : ¬ T < 0 := fun h => hT (.inl h)
        have hmT : ¬ (m : Int) < T := fun h => hT (.inr h)
        clear hbad hgood hT hr
        go_wp2_with (go_at_call 77; refine (HC.out _).mono ?_; rintro e w' ⟨rfl, rfl⟩)
        go_round
        case rel => exact Lib.hid ⟨k + 1, m - T.toNat + 1, by omega, by go_num, by congr 1; omega, by omega, hg.out⟩
        case measure => simp [intOf]; omega
    · obtain rfl : k = l.length := by omega
      by_cases hn : 1 ≤ l.length ∧ l.length ≤ 16
      · have hv := Lib.hid (pvB_end hn hm)
        have hin : inB (l.length : Int) 1 16 = true := by simp [inB]; omega
        have hq : ((m : Int) == 1) = (m == 1) := by rw [Bool.eq_iff_iff]; simp; omega
        clear hm hn
        go_wp2_with (go_at_call 34; refine (l1In_c _ _ _ _).mono ?_; rintro e w' ⟨rfl, rfl⟩)
        go_ret
        exact ⟨by rw [hv.out, ← hq]; rfl, rfl⟩
      · have hv := Lib.hid (pvB_out hn)
        have hin : inB (l.length : Int) 1 16 = false := by simp [inB]; omega
        clear hm hn
        go_wp2_with (go_at_call 34; refine (l1In_c _ _ _ _).mono ?_; rintro e w' ⟨rfl, rfl⟩)
        go_ret
        exact ⟨by rw [hv.out]; rfl, rfl⟩
end Go.Proofs.YtlaamecfknkmlaaDoor
