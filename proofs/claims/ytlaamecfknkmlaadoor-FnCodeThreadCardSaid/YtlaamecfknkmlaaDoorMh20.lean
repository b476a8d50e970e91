/- Merged texts: contracts and plain lemmas (Ka). -/
import Derived.Test.YtlaamecfknkmlaaDoorMh3
import Derived.Test.YtlaamecfknkmlaaDoorMh19
import Derived.Deep.RegionLaw
/- Contracts: validity of expressions, and the halves of an expression. -/
namespace Go.Proofs.YtlaamecfknkmlaaDoor
set_option linter.unusedVariables false
open Go.RowKit Go.Kt

theorem tkK_cases (x : Int) : (x = 19 ∧ tkK x = 2) ∨ (x = 20 ∧ tkK x = 2) ∨ (x = 21 ∧ tkK x = 1) ∨ ((x ≠ 19 ∧ x ≠ 20 ∧ x ≠ 21) ∧ tkK x = 0) := by
  unfold tkK
  by_cases h1 : x = 19
  · exact .inl ⟨h1, if_pos (.inl h1)⟩
  · by_cases h2 : x = 20
    · exact .inr (.inl ⟨h2, if_pos (.inr h2)⟩)
    · by_cases h3 : x = 21
      · exact .inr (.inr (.inl ⟨h3, by rw [if_neg (by omega), if_pos h3]⟩))
      · exact .inr (.inr (.inr ⟨⟨h1, h2, h3⟩, by rw [if_neg (by omega), if_neg h3]⟩))
theorem takes_c (x : Int) (w : World) : Calls Tryd.prog 53 #[.int .i64 x] w fun e w' => e = .returned (.int .i64 (tkK x)) ∧ w = w' := by
  rcases tkK_cases x with ⟨rfl, h⟩ | ⟨rfl, h⟩ | ⟨rfl, h⟩ | ⟨⟨h1, h2, h3⟩, h⟩
  · have H := Lib.hid h
    clear h
    go_enter Tryd.func53, Tryd.ntmps53
    go_wp2
    go_ret
    exact ⟨by rw [H.out]; rfl, rfl⟩
  · have H := Lib.hid h
    clear h
    go_enter Tryd.func53, Tryd.ntmps53
    go_wp2
    go_ret
    exact ⟨by rw [H.out]; rfl, rfl⟩
  · have H := Lib.hid h
    clear h
    go_enter Tryd.func53, Tryd.ntmps53
    go_wp2
    go_ret
    exact ⟨by rw [H.out]; rfl, rfl⟩
  · have H := Lib.hid h
    have e1 : (x == 19) = false := by simp [h1]
    have e2 : (x == 20) = false := by simp [h2]
    have e3 : (x == 21) = false := by simp [h3]
    clear h h1 h2 h3
    go_enter Tryd.func53, Tryd.ntmps53
    go_wp2
    go_ret
    exact ⟨by rw [H.out]; rfl, rfl⟩

set_option maxRecDepth 100000 in
theorem iKatValid_c (a : Option Addr) (cap : Nat) (l : List Int) (w : World) (hl : IntsAt w a l) (hlen : l.length ≤ 4194304) :
    Calls Tryd.prog 26 #[.slice a l.length cap] w fun e w' => e = .returned (.bool (kvB l)) ∧ w = w' := by
  by_cases hn : 1 ≤ l.length ∧ l.length ≤ 40
  · have hn1 : 1 ≤ l.length := hn.1
    have hn2 : l.length ≤ 40 := hn.2
    have HN := Lib.hid hn
    obtain ⟨b, off, h1, h2⟩ := hl
    obtain ⟨rfl, hb⟩ := h1 (by omega)
    have H2 := Lib.hid h2
    clear h1 h2 hn
    go_enter Tryd.func26, Tryd.ntmps26
    go_wp2
    go_loop [3, 16] (fun mv i => Hid (∃ k m : Nat, k ≤ l.length ∧ i = .int .i64 k ∧ mv = .int .i64 m ∧ m ≤ k ∧ mnyK l k = some m)) (fun _ i => l.length - (intOf i).toNat)
    case atStart => exact Lib.hid ⟨0, 0, Nat.zero_le _, rfl, rfl, Nat.le_refl _, rfl⟩
    case round =>
      obtain ⟨k, m, hk, rfl, rfl, hmk, hm⟩ := hrel.out
      clear hrel
      by_cases hlt : k < l.length
      · have hc := H2.out k hlt
        have hbad : Hid (BadK (nth l k) m → kvB l = false) := fun h => kvB_none (k := k + 1) (by omega) (mnyK_bad hm h)
        have hgood : Hid (¬ BadK (nth l k) m → mnyK l (k + 1) = some (m - (tkK (nth l k)).toNat + 1)) := fun h => mnyK_good hm h
        have hr := tkK_range (nth l k)
        have hcall : ∀ w0 : World, Calls Tryd.prog 53 #[.int .i64 (nth l k)] w0 fun e w' => e = .returned (.int .i64 (tkK (nth l k))) ∧ w0 = w' := fun w0 => takes_c _ w0
        have HC := Lib.hid hcall
        have hbd : BadK (nth l k) m ↔ (nth l k < 0 ∨ 21 < nth l k ∨ (m : Int) < tkK (nth l k)) := Iff.rfl
        have HBD := Lib.hid hbd
        clear hm hcall hbd
        generalize hB : BadK (nth l k) m = Bad at *
        generalize tkK (nth l k) = T at *
        generalize nth l k = x at *
        by_cases hx : x < 0
        · have HV := Lib.hid (hbad.out (HBD.out.2 (.inl hx)))
          clear hbad hgood
          go_wp2_with (first | (go_at_call 53; refine (HC.out _).mono ?_; rintro e w' ⟨rfl, rfl⟩) | fail)
          go_ret
          exact ⟨by rw [HV.out]; rfl, rfl⟩
        · by_cases hx2 : 21 < x
          · have HV := Lib.hid (hbad.out (HBD.out.2 (.inr (.inl hx2))))
            clear hbad hgood
            go_wp2_with (first | (go_at_call 53; refine (HC.out _).mono ?_; rintro e w' ⟨rfl, rfl⟩) | fail)
            go_ret
            exact ⟨by rw [HV.out]; rfl, rfl⟩
          · by_cases hT : (m : Int) < T
            · have HV := Lib.hid (hbad.out (HBD.out.2 (.inr (.inr hT))))
              clear hbad hgood
              go_wp2_with (first | (go_at_call 53; refine (HC.out _).mono ?_; rintro e w' ⟨rfl, rfl⟩) | fail)
              go_ret
              exact ⟨by rw [HV.out]; rfl, rfl⟩
            · have hg := Lib.hid (hgood.out fun h => by rcases HBD.out.1 h with h | h | h <;> omega)
              clear hbad hgood
              go_wp2_with (first | (go_at_call 53; refine (HC.out _).mono ?_; rintro e w' ⟨rfl, rfl⟩) | fail)
              go_round
              case rel => exact Lib.hid ⟨k + 1, m - T.toNat + 1, by omega, by go_num, by congr 1; omega, by omega, hg.out⟩
              case measure => simp [intOf]; omega
      · obtain rfl : k = l.length := by omega
        have hv := Lib.hid (kvB_end HN.out hm)
        have hq : ((m : Int) == 1) = (m == 1) := by rw [Bool.eq_iff_iff]; simp; omega
        clear hm
        go_wp2
        go_ret
        exact ⟨by rw [hv.out, ← hq]; rfl, rfl⟩
  · have hv := Lib.hid (kvB_out hn)
    by_cases h1 : 1 ≤ l.length
    all_goals
      clear hl
      go_enter Tryd.func26, Tryd.ntmps26
      go_wp2
      go_ret
      exact ⟨by rw [hv.out]; rfl, rfl⟩
end Go.Proofs.YtlaamecfknkmlaaDoor
