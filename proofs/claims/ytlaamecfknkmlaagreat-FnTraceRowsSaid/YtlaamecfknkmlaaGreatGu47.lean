/- Merged texts: contracts and plain lemmas (Tv). -/
import Derived.Test.YtlaamecfknkmlaaGreatGu34
/- Contracts: validity of traces. -/
namespace Go.Kt
set_option linter.unusedVariables false
/-- The i-th number of a trace is an atom or an action. -/
def inR (n a b : Int) : Bool := decide (a ≤ n ∧ n ≤ b)
def tokB (l : List Int) (i : Nat) : Bool := if i % 2 = 0 then inR (nth l i) 0 3 else inR (nth l i) 16 18
def tvB (l : List Int) : Bool := decide (l.length % 2 = 1 ∧ l.length ≤ 41) && (List.range l.length).all (tokB l)
theorem tvB_all {l : List Int} (h : ∀ j, j < l.length → tokB l j = true) : tvB l = decide (l.length % 2 = 1 ∧ l.length ≤ 41) := by
  unfold tvB
  rw [show (List.range l.length).all (tokB l) = true from List.all_eq_true.2 fun j hj => h j (List.mem_range.1 hj), Bool.and_true]
theorem tvB_bad {l : List Int} {k : Nat} (hk : k < l.length) (h : tokB l k = false) : tvB l = false := by
  unfold tvB
  rw [show (List.range l.length).all (tokB l) = false from List.all_eq_false.2 ⟨k, List.mem_range.2 hk, by simp [h]⟩, Bool.and_false]
theorem tvB_len {l : List Int} (h : tvB l = true) : l.length % 2 = 1 ∧ l.length ≤ 41 := by
  unfold tvB at h
  rw [Bool.and_eq_true, decide_eq_true_eq] at h
  exact h.1
theorem tvB_tok {l : List Int} (h : tvB l = true) {k : Nat} (hk : k < l.length) : tokB l k = true := by
  unfold tvB at h
  rw [Bool.and_eq_true, List.all_eq_true] at h
  exact h.2 k (List.mem_range.2 hk)
theorem tokB_even {l : List Int} {k : Nat} (h : k % 2 = 0) : tokB l k = inR (nth l k) 0 3 := if_pos h
theorem tokB_odd {l : List Int} {k : Nat} (h : k % 2 = 1) : tokB l k = inR (nth l k) 16 18 := if_neg (by omega)
end Go.Kt
namespace Go.Proofs.YtlaamecfknkmlaaGreat
set_option linter.unusedVariables false
open Go.RowKit Go.Kt

theorem inR_inB (n a b : Int) : inR n a b = inB n a b := rfl
theorem isAtom_c (t : Int) (w : World) :
    Calls Tryz.prog 127 #[.int .i64 t] w fun e w' => e = .returned (.bool (inB t 0 3)) ∧ w = w' := by
  by_cases h1 : 0 ≤ t
  all_goals
    go_enter Tryz.func127, Tryz.ntmps127
    go_wp2
    go_ret
    exact ⟨by simp [inB, h1]; try omega, rfl⟩
set_option maxHeartbeats 1000000 in
theorem iTraceValid_c (a : Option Addr) (cap : Nat) (l : List Int) (w : World) (hl : IntsAt w a l) (hlen : l.length ≤ 4194304) :
    Calls Tryz.prog 68 #[.slice a l.length cap] w fun e w' => e = .returned (.bool (tvB l)) ∧ w = w' := by
  have hmm : (l.length : Int) % 2 = ((l.length % 2 : Nat) : Int) := by omega
  by_cases hm : l.length % 2 = 1
  · have hm1 : (((l.length : Int) % 2) != 1) = false := by rw [hmm, hm]; rfl
    by_cases h41 : l.length ≤ 41
    · obtain ⟨b, off, h1, h2⟩ := hl
      obtain ⟨rfl, hb⟩ := h1 (by omega)
      have H2 := Lib.hid h2
      have HD : Hid ((∀ j, j < l.length → tokB l j = true) → tvB l = true) := fun h => by rw [tvB_all h, decide_eq_true ⟨hm, h41⟩]
      have HB : Hid (∀ k, k < l.length → tokB l k = false → tvB l = false) := fun k hk h => tvB_bad hk h
      clear h1 h2 hm hmm
      go_enter Tryz.func68, Tryz.ntmps68
      go_wp2
      go_loop [16] (fun i => Hid (∃ k : Nat, k ≤ l.length ∧ i = .int .i64 k ∧ (∀ j, j < k → tokB l j = true))) (fun i => l.length - (intOf i).toNat)
      case atStart => exact Lib.hid ⟨0, Nat.zero_le _, rfl, fun j hj => absurd hj (Nat.not_lt_zero _)⟩
      case round =>
        obtain ⟨k, hk, rfl, hno⟩ := hrel.out
        have HN := Lib.hid hno
        clear hrel hno
        by_cases hlt : k < l.length
        · have hc := H2.out k hlt
          have HB1 : Hid (tokB l k = false → tvB l = false) := HB.out k hlt
          rcases Nat.mod_two_eq_zero_or_one k with hp | hp
          · have m0 : ((k : Int) % 2 == 0) = true := by have : (k : Int) % 2 = 0 := by omega
                                                        rw [this]; rfl
            have m1 : ((k : Int) % 2 == 1) = false := by have : (k : Int) % 2 = 0 := by omega
                                                         rw [this]; rfl
            have HT : Hid (tokB l k = inB (nth l k) 0 3) := tokB_even hp
            clear hp
            generalize nth l k = y at *
            cases hy : inB y 0 3
            · have HF := Lib.hid (HB1.out (HT.out.trans hy))
              go_wp2_with (go_at_call 127; refine (isAtom_c _ _).mono ?_; rw [hy]; rintro e w' ⟨rfl, rfl⟩)
              go_ret
              exact ⟨by rw [HF.out]; rfl, rfl⟩
            · have HT2 := Lib.hid (HT.out.trans hy)
              go_wp2_with (go_at_call 127; refine (isAtom_c _ _).mono ?_; rw [hy]; rintro e w' ⟨rfl, rfl⟩)
              go_round
              case rel => exact Lib.hid ⟨k + 1, by omega, by go_num, upto_succ HN.out HT2.out⟩
              case measure => simp [intOf]; omega
          · have m0 : ((k : Int) % 2 == 0) = false := by have : (k : Int) % 2 = 1 := by omega
                                                         rw [this]; rfl
            have m1 : ((k : Int) % 2 == 1) = true := by have : (k : Int) % 2 = 1 := by omega
                                                        rw [this]; rfl
            have HT : Hid (tokB l k = inB (nth l k) 16 18) := tokB_odd hp
            clear hp
            generalize nth l k = y at *
            cases hy : inB y 16 18
            · have HF := Lib.hid (HB1.out (HT.out.trans hy))
              go_wp2_with (go_at_call 128; refine (actB_c _ _).mono ?_; rw [hy]; rintro e w' ⟨rfl, rfl⟩)
              go_ret
              exact ⟨by rw [HF.out]; rfl, rfl⟩
            · have HT2 := Lib.hid (HT.out.trans hy)
              go_wp2_with (go_at_call 128; refine (actB_c _ _).mono ?_; rw [hy]; rintro e w' ⟨rfl, rfl⟩)
              go_round
              case rel => exact Lib.hid ⟨k + 1, by omega, by go_num, upto_succ HN.out HT2.out⟩
              case measure => simp [intOf]; omega
        · obtain rfl : k = l.length := by omega
          have HF := Lib.hid (HD.out HN.out)
          go_wp2
          go_ret
          exact ⟨by rw [HF.out]; rfl, rfl⟩
    · have HF : Hid (tvB l = false) := by unfold Hid tvB; rw [decide_eq_false (by omega)]; rfl
      clear hm hmm
      go_enter Tryz.func68, Tryz.ntmps68
      go_wp2
      go_ret
      exact ⟨by rw [HF.out]; rfl, rfl⟩
  · have hm1 : (((l.length : Int) % 2) != 1) = true := by
      have : (l.length : Int) % 2 = 0 := by omega
      rw [this]; rfl
    have HF : Hid (tvB l = false) := by unfold Hid tvB; rw [decide_eq_false (by omega)]; rfl
    clear hm hmm
    go_enter Tryz.func68, Tryz.ntmps68
    go_wp2
    go_ret
    exact ⟨by rw [HF.out]; rfl, rfl⟩
set_option maxHeartbeats 1000000 in
theorem sTraceValid_c (a : Option Addr) (cap : Nat) (l : List Int) (w : World) (hl : IntsAt w a l) (hlen : l.length ≤ 4194304) :
    Calls Tryz.prog 101 #[.slice a l.length cap] w fun e w' => e = .returned (.bool (tvB l)) ∧ w = w' := by
  obtain ⟨b, off, h1, h2⟩ := hl
  have H1 := Lib.hid h1
  have H2 := Lib.hid h2
  have HD : Hid ((∀ j, j < l.length → tokB l j = true) → tvB l = decide (l.length % 2 = 1 ∧ l.length ≤ 41)) := fun h => tvB_all h
  have HB : Hid (∀ k, k < l.length → tokB l k = false → tvB l = false) := fun k hk h => tvB_bad hk h
  clear h1 h2
  go_enter Tryz.func101, Tryz.ntmps101
  go_wp2
  go_loop [3] (fun i => Hid (∃ k : Nat, k ≤ l.length ∧ i = .int .i64 k ∧ (∀ j, j < k → tokB l j = true))) (fun i => l.length - (intOf i).toNat)
  case atStart => exact Lib.hid ⟨0, Nat.zero_le _, rfl, fun j hj => absurd hj (Nat.not_lt_zero _)⟩
  case round =>
    obtain ⟨k, hk, rfl, hno⟩ := hrel.out
    have HN := Lib.hid hno
    clear hrel hno
    by_cases hlt : k < l.length
    · obtain ⟨rfl, hb⟩ := H1.out (by omega)
      have hc := H2.out k hlt
      have HB1 : Hid (tokB l k = false → tvB l = false) := HB.out k hlt
      rcases Nat.mod_two_eq_zero_or_one k with hp | hp
      · have m0 : ((k : Int) % 2 == 0) = true := by have : (k : Int) % 2 = 0 := by omega
                                                    rw [this]; rfl
        have m1 : ((k : Int) % 2 == 1) = false := by have : (k : Int) % 2 = 0 := by omega
                                                     rw [this]; rfl
        have HT : Hid (tokB l k = inB (nth l k) 0 3) := tokB_even hp
        clear hp
        generalize nth l k = y at *
        cases hy : inB y 0 3
        · have HF := Lib.hid (HB1.out (HT.out.trans hy))
          go_wp2_with (go_at_call 61; refine (l1In_c _ _ _ _).mono ?_; rw [hy]; rintro e w' ⟨rfl, rfl⟩)
          go_ret
          exact ⟨by rw [HF.out]; rfl, rfl⟩
        · have HT2 := Lib.hid (HT.out.trans hy)
          go_wp2_with (go_at_call 61; refine (l1In_c _ _ _ _).mono ?_; rw [hy]; rintro e w' ⟨rfl, rfl⟩)
          go_round
          case rel => exact Lib.hid ⟨k + 1, by omega, by go_num, upto_succ HN.out HT2.out⟩
          case measure => simp [intOf]; omega
      · have m0 : ((k : Int) % 2 == 0) = false := by have : (k : Int) % 2 = 1 := by omega
                                                     rw [this]; rfl
        have m1 : ((k : Int) % 2 == 1) = true := by have : (k : Int) % 2 = 1 := by omega
                                                    rw [this]; rfl
        have HT : Hid (tokB l k = inB (nth l k) 16 18) := tokB_odd hp
        clear hp
        generalize nth l k = y at *
        cases hy : inB y 16 18
        · have HF := Lib.hid (HB1.out (HT.out.trans hy))
          go_wp2_with (go_at_call 61; refine (l1In_c _ _ _ _).mono ?_; rw [hy]; rintro e w' ⟨rfl, rfl⟩)
          go_ret
          exact ⟨by rw [HF.out]; rfl, rfl⟩
        · have HT2 := Lib.hid (HT.out.trans hy)
          go_wp2_with (go_at_call 61; refine (l1In_c _ _ _ _).mono ?_; rw [hy]; rintro e w' ⟨rfl, rfl⟩)
          go_round
          case rel => exact Lib.hid ⟨k + 1, by omega, by go_num, upto_succ HN.out HT2.out⟩
          case measure => simp [intOf]; omega
    · obtain rfl : k = l.length := by omega
      have HF := Lib.hid (HD.out HN.out)
      by_cases hm : l.length % 2 = 1
      · have hm1 : ((l.length : Int) % 2 == 1) = true := by
          have : (l.length : Int) % 2 = 1 := by omega
          rw [this]; rfl
        have HF2 : Hid (tvB l = decide (l.length ≤ 41)) := by unfold Hid; rw [HF.out, Bool.eq_iff_iff, decide_eq_true_eq, decide_eq_true_eq]; exact ⟨fun h => h.2, fun h => ⟨hm, h⟩⟩
        clear hm
        by_cases h41 : l.length ≤ 41
        all_goals
          go_wp2
          go_ret
          exact ⟨by rw [HF2.out]; simp [h41]; try omega, rfl⟩
      · have hm1 : ((l.length : Int) % 2 == 1) = false := by
          have : (l.length : Int) % 2 = 0 := by omega
          rw [this]; rfl
        have HF2 : Hid (tvB l = false) := by unfold Hid; rw [HF.out, decide_eq_false (by omega)]
        clear hm
        go_wp2
        go_ret
        exact ⟨by rw [HF2.out]; rfl, rfl⟩
end Go.Proofs.YtlaamecfknkmlaaGreat
