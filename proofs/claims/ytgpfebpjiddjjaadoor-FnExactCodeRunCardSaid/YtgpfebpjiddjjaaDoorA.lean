/- Contracts of the small functions over numbers and sets. -/
import Derived.Test.YtgpfebpjiddjjaaDoorRows
import Derived.Test.YtgpfebpjiddjjaaDoorSets
import Derived.BigQuiet
import Derived.Deep.QuietTactic
import Derived.Deep.LoopGhost
namespace Go.Proofs.YtgpfebpjiddjjaaDoor
set_option linter.unusedVariables false
open Go.RowKit Go.Kt

/-- Within bounds. -/
def inB (n a b : Int) : Bool := decide (a ≤ n ∧ n ≤ b)

theorem l1In_c (n a b : Int) (w : World) :
    Calls Tryd.prog 29 #[.int .i64 n, .int .i64 a, .int .i64 b] w fun e w' => e = .returned (.bool (inB n a b)) ∧ w = w' := by
  by_cases h1 : a ≤ n
  all_goals
    go_enter Tryd.func29, Tryd.ntmps29
    go_wp2
    go_ret
    exact ⟨by simp [inB, h1]; try omega, rfl⟩
theorem holds_c (t a : Nat) (w : World) (ht : t < 4294967296) (_ha : a < 60) :
    Calls Tryd.prog 36 #[.int .i64 t, .int .i64 a] w fun e w' => e = .returned (.bool (t.testBit a)) ∧ w = w' := by
  go_enter Tryd.func36, Tryd.ntmps36
  go_wp2
  go_ret
  exact ⟨by rw [← i64_bit_eq t a (by omega)]; rfl, rfl⟩
theorem l1Bit_c (t a : Nat) (w : World) (_ht : t < 4294967296) (_ha : a < 60) :
    Calls Tryd.prog 30 #[.int .i64 t, .int .i64 a] w fun e w' => e = .returned (.int .i64 ((t.testBit a).toNat : Nat)) ∧ w = w' := by
  go_enter Tryd.func30, Tryd.ntmps30
  go_wp2
  go_ret
  exact ⟨by rw [← tmod_bit t a]; rfl, rfl⟩
theorem hasStates_c (n : Int) (w : World) :
    Calls Tryd.prog 66 #[.int .i64 n] w fun e w' => e = .returned (.bool (decide (1 ≤ n ∧ n ≤ 5))) ∧ w = w' := by
  by_cases h1 : 1 ≤ n
  all_goals
    go_enter Tryd.func66, Tryd.ntmps66
    go_wp2
    go_ret
    exact ⟨by simp [h1]; try omega, rfl⟩
/-- A set of so many states. -/
def setB (s : Nat) (x : Int) : Bool := decide (0 ≤ x ∧ x < 2 ^ s)

theorem isSet_c (s : Nat) (x : Int) (w : World) (hs : s ≤ 5) :
    Calls Tryd.prog 67 #[.int .i64 s, .int .i64 x] w fun e w' => e = .returned (.bool (setB s x)) ∧ w = w' := by
  have hp := pow_le_32 s hs
  have hq := pow_pos' s
  by_cases h1 : 0 ≤ x
  all_goals
    go_enter Tryd.func67, Tryd.ntmps67
    go_wp2
    go_ret
    exact ⟨by simp [setB, h1]; try omega, rfl⟩
theorem l1Both_c (a b : Nat) (w : World) (ha : a < 4294967296) (hb : b < 4294967296) :
    Calls Tryd.prog 44 #[.int .i64 a, .int .i64 b] w fun e w' => e = .returned (.int .i64 (andN a b : Nat)) ∧ w = w' := by
  go_enter Tryd.func44, Tryd.ntmps44
  go_wp2
  go_loop [5, 6] (fun o i => ∃ k : Nat, k ≤ 32 ∧ i = .int .i64 k ∧ o = .int .i64 (andTo a b k)) (fun _ i => 40 - (intOf i).toNat)
  case atStart => exact ⟨0, by omega, rfl, by rw [andTo_zero]; rfl⟩
  case round =>
    obtain ⟨k, hk, rfl, rfl⟩ := hrel
    have hp := pow_le_big k 32 hk
    have hq := pow_pos' k
    have hle := andTo_le a b k
    have hs := Lib.hid (andTo_succ a b k)
    by_cases h : (2 : Int) ^ k ≤ a ∧ (2 : Int) ^ k ≤ b
    · obtain ⟨h1, h2⟩ := h
      have hk2 : k < 32 := by
        apply Decidable.byContradiction; intro hn
        obtain rfl : k = 32 := by omega
        omega
      cases hA : a.testBit k
      all_goals cases hB : b.testBit k
      all_goals
        go_wp2_with (go_at_call 30; refine (l1Bit_c _ _ _ (by omega) (by omega)).mono ?_; rintro e w' ⟨rfl, rfl⟩)
        go_round
        case rel => exact ⟨k + 1, by omega, by go_num, by rw [hs.out, hA, hB]; simp⟩
        case measure => simp [intOf]; omega
    · have he : andTo a b k = andN a b := andTo_end a b k (by
        rcases Nat.lt_or_ge a (2 ^ k) with h1 | h1
        · exact .inl h1
        · rcases Nat.lt_or_ge b (2 ^ k) with h2 | h2
          · exact .inr h2
          · exact absurd ⟨by exact_mod_cast h1, by exact_mod_cast h2⟩ h)
      have he' := Lib.hid he
      clear he
      by_cases h1 : (2 : Int) ^ k ≤ a
      all_goals
        have h3 : ¬ ((2 : Int) ^ k ≤ b) ∨ ¬ (2 : Int) ^ k ≤ a := by omega
        clear h
        go_wp2
        go_ret
        exact ⟨by rw [← he'.out]; rfl, rfl⟩
theorem image_c (b : Option Addr) (cb : Nat) (lb : List Int) (s : Nat) (w : World) (hb : IntsAt w b lb) (hs : Sets lb) (hl : lb.length ≤ 32) (hset : s < 4294967296) :
    Calls Tryd.prog 87 #[.slice b lb.length cb, .int .i64 s] w fun e w' => e = .returned (.int .i64 (img lb s : Nat)) ∧ w = w' := by
  obtain ⟨b1, o1, p1, q1⟩ := hb
  have P1 := Lib.hid p1
  have Q1 := Lib.hid q1
  have S1 := Lib.hid hs
  clear p1 q1 hs
  go_enter Tryd.func87, Tryd.ntmps87
  go_wp2
  go_loop [5, 10] (fun o i => Hid (∃ k : Nat, k ≤ lb.length ∧ i = .int .i64 k ∧ o = .int .i64 (imgTo lb s k : Nat))) (fun _ i => lb.length - (intOf i).toNat)
  case atStart => exact Lib.hid ⟨0, Nat.zero_le _, rfl, rfl⟩
  case round =>
    obtain ⟨k, hk, rfl, rfl⟩ := hrel.out
    clear hrel
    have hlo : imgTo lb s k < 4294967296 := imgTo_lt S1.out.pow s k hk
    have hsu := Lib.hid (imgTo_succ lb s k)
    by_cases hlt : k < lb.length
    · obtain ⟨rfl, hb1⟩ := P1.out (by omega)
      have hc1 := Q1.out k hlt
      have hn := S1.out.lt k hlt
      have e := i64_orN _ _ hlo hn
      have eb := i64_bit_eq s k (by omega)
      rw [S1.out.eq k hlt] at hc1
      clear P1 Q1
      cases hbit : s.testBit k
      all_goals
        rw [hbit] at eb
        go_wp2
        go_round
        case rel => exact Lib.hid ⟨k + 1, by omega, by go_num, by rw [hsu.out, hbit]; rfl⟩
        case measure => simp [intOf]; omega
    · obtain rfl : k = lb.length := by omega
      go_wp2
      go_ret
      exact ⟨rfl, rfl⟩
end Go.Proofs.YtgpfebpjiddjjaaDoor
