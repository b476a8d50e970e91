/- Merged texts: contracts and plain lemmas (Yf). -/
import Derived.Test.YtlaamecfknkmlaaGreatGu24
import Derived.Test.YtlaamecfknkmlaaGreatGu25
import Derived.Test.YtlaamecfknkmlaaGreatGu2
import Derived.WalkKit
/- Contracts: the library's comparisons of lists of numbers. -/
namespace Go.Kt
set_option linter.unusedVariables false
def cmpI (x y : Int) : Int := if x < y then -1 else if y < x then 1 else 0
/-- How two lists of numbers compare. -/
def cmpL : List Int → List Int → Int
  | [], [] => 0
  | [], _ :: _ => -1
  | _ :: _, [] => 1
  | a :: xs, b :: ys => if a < b then -1 else if b < a then 1 else cmpL xs ys
theorem cmpL_lt : ∀ x y, decide (cmpL x y < 0) = ltL x y
  | [], [] => rfl
  | [], _ :: _ => rfl
  | _ :: _, [] => rfl
  | a :: xs, b :: ys => by
    unfold cmpL ltL
    split
    · rfl
    · split
      · rfl
      · exact cmpL_lt xs ys
theorem cmpL_cons (a b : Int) (xs ys : List Int) : cmpL (a :: xs) (b :: ys) = if a < b then -1 else if b < a then 1 else cmpL xs ys := rfl
theorem drop_nth {l : List Int} {k : Nat} (h : k < l.length) : l.drop k = nth l k :: l.drop (k + 1) := by
  rw [List.drop_eq_getElem_cons h, nth_getElem l k h]
end Go.Kt
namespace Go.Proofs.YtlaamecfknkmlaaGreat
set_option linter.unusedVariables false
open Go.RowKit Go.Kt

theorem isNaN_c (x : Int) (w : World) : Calls Tryz.prog 179 #[.int .i64 x] w fun e w' => e = .returned (.bool false) ∧ w = w' := by
  have h : (x != x) = false := by simp
  go_enter Tryz.func179, Tryz.ntmps179
  go_wp2
  go_ret
  exact ⟨rfl, rfl⟩
theorem cmpInt_c (x y : Int) (w : World) : Calls Tryz.prog 164 #[.int .i64 x, .int .i64 y] w fun e w' => e = .returned (.int .i64 (cmpI x y)) ∧ w = w' := by
  by_cases h1 : x < y
  · have hv : Hid (cmpI x y = -1) := if_pos h1
    go_enter Tryz.func164, Tryz.ntmps164
    go_wp2_with (go_at_call 179; refine (isNaN_c _ _).mono ?_; rintro e w1 ⟨rfl, rfl⟩)
    go_ret
    exact ⟨by rw [hv.out]; rfl, rfl⟩
  · by_cases h2 : y < x
    · have hv : Hid (cmpI x y = 1) := by unfold Hid cmpI; rw [if_neg h1, if_pos h2]
      go_enter Tryz.func164, Tryz.ntmps164
      go_wp2_with (go_at_call 179; refine (isNaN_c _ _).mono ?_; rintro e w1 ⟨rfl, rfl⟩)
      go_ret
      exact ⟨by rw [hv.out]; rfl, rfl⟩
    · have hv : Hid (cmpI x y = 0) := by unfold Hid cmpI; rw [if_neg h1, if_neg h2]
      go_enter Tryz.func164, Tryz.ntmps164
      go_wp2_with (go_at_call 179; refine (isNaN_c _ _).mono ?_; rintro e w1 ⟨rfl, rfl⟩)
      go_ret
      exact ⟨by rw [hv.out]; rfl, rfl⟩
set_option maxHeartbeats 1000000 in
theorem compare_c (a1 a2 : Option Addr) (c1 c2 : Nat) (l1 l2 : List Int) (w : World) (h1 : IntsAt w a1 l1) (h2 : IntsAt w a2 l2) (hl1 : l1.length ≤ 4611686018427387904) (hl2 : l2.length ≤ 4611686018427387904) :
    Calls Tryz.prog 131 #[.slice a1 l1.length c1, .slice a2 l2.length c2] w fun e w' => e = .returned (.int .i64 (cmpL l1 l2)) ∧ w = w' := by
  obtain ⟨b1, o1, p1, q1⟩ := h1
  obtain ⟨b2, o2, p2, q2⟩ := h2
  have P1 := Lib.hid p1
  have Q1 := Lib.hid q1
  have P2 := Lib.hid p2
  have Q2 := Lib.hid q2
  obtain ⟨r, hr⟩ : ∃ r, Hid (r = cmpL l1 l2) := ⟨_, rfl⟩
  rw [← hr.out]
  clear p1 q1 p2 q2
  go_enter Tryz.func131, Tryz.ntmps131
  go_wp2
  go_loop [11] (fun i => Hid (∃ k : Nat, k ≤ l1.length ∧ k ≤ l2.length ∧ i = .int .i64 k ∧ r = cmpL (l1.drop k) (l2.drop k))) (fun i => l1.length - (intOf i).toNat)
  case atStart => exact Lib.hid ⟨0, Nat.zero_le _, Nat.zero_le _, rfl, hr.out⟩
  case round =>
    obtain ⟨k, hk1, hk2, rfl, hk⟩ := hrel.out
    clear hrel hr
    by_cases hlt : k < l1.length
    · obtain ⟨rfl, z1⟩ := P1.out (by omega)
      have d1 := Q1.out k hlt
      by_cases hlt2 : k < l2.length
      · obtain ⟨rfl, z2⟩ := P2.out (by omega)
        have d2 := Q2.out k hlt2
        rw [drop_nth hlt, drop_nth hlt2] at hk
        by_cases hc : cmpI (nth l1 k) (nth l2 k) = 0
        · have hs : Hid (r = cmpL (l1.drop (k + 1)) (l2.drop (k + 1))) := by
            unfold Hid; rw [hk, cmpL_cons]; unfold cmpI at hc
            split at hc
            · omega
            · split at hc
              · omega
              · rw [if_neg (by assumption), if_neg (by assumption)]
          have hc0 : (cmpI (nth l1 k) (nth l2 k) != 0) = false := by simp [hc]
          have HC : Hid (∀ W, Calls Tryz.prog 164 #[.int .i64 (nth l1 k), .int .i64 (nth l2 k)] W fun e w' => e = .returned (.int .i64 (cmpI (nth l1 k) (nth l2 k))) ∧ W = w') := fun W => cmpInt_c _ _ W
          clear hk hc
          generalize cmpI (nth l1 k) (nth l2 k) = c at *
          generalize nth l1 k = x at *
          generalize nth l2 k = y at *
          go_wp2_with (go_at_call 164; refine (HC.out _).mono ?_; rintro e w1 ⟨rfl, rfl⟩)
          go_round
          case rel => exact Lib.hid ⟨k + 1, by omega, by omega, by go_num, hs.out⟩
          case measure => simp [intOf]; omega
        · have hs : Hid (r = cmpI (nth l1 k) (nth l2 k)) := by
            unfold Hid; rw [hk, cmpL_cons]; unfold cmpI at hc ⊢
            split
            · rfl
            · rename_i h1; rw [if_neg h1] at hc
              split
              · rfl
              · rename_i h2; rw [if_neg h2] at hc; omega
          have hc0 : (cmpI (nth l1 k) (nth l2 k) != 0) = true := by simp [hc]
          have HC : Hid (∀ W, Calls Tryz.prog 164 #[.int .i64 (nth l1 k), .int .i64 (nth l2 k)] W fun e w' => e = .returned (.int .i64 (cmpI (nth l1 k) (nth l2 k))) ∧ W = w') := fun W => cmpInt_c _ _ W
          clear hk hc
          generalize cmpI (nth l1 k) (nth l2 k) = c at *
          generalize nth l1 k = x at *
          generalize nth l2 k = y at *
          go_wp2_with (go_at_call 164; refine (HC.out _).mono ?_; rintro e w1 ⟨rfl, rfl⟩)
          go_ret
          exact ⟨by rw [hs.out]; rfl, rfl⟩
      · have hs : Hid (r = 1) := by
          unfold Hid; rw [hk, show l2.drop k = [] from List.drop_eq_nil_of_le (by omega), drop_nth hlt]; rfl
        clear hk
        go_wp2
        go_ret
        exact ⟨by rw [hs.out]; rfl, rfl⟩
    · have hd : l1.drop k = [] := List.drop_eq_nil_of_le (by omega)
      rw [hd] at hk
      by_cases hlt2 : k < l2.length
      · have hs : Hid (r = -1) := by unfold Hid; rw [hk, drop_nth hlt2]; rfl
        have hll : l1.length < l2.length := by omega
        clear hk
        go_wp2
        go_ret
        exact ⟨by rw [hs.out]; rfl, rfl⟩
      · have hs : Hid (r = 0) := by unfold Hid; rw [hk, show l2.drop k = [] from List.drop_eq_nil_of_le (by omega)]; rfl
        have hll : ¬ l1.length < l2.length := by omega
        clear hk
        go_wp2
        go_ret
        exact ⟨by rw [hs.out]; rfl, rfl⟩
set_option maxRecDepth 100000 in
theorem equal_c (a1 a2 : Option Addr) (c1 c2 : Nat) (l1 l2 : List Int) (w : World) (h1 : IntsAt w a1 l1) (h2 : IntsAt w a2 l2) (hl1 : l1.length ≤ 4611686018427387904) (hl2 : l2.length ≤ 4611686018427387904) :
    Calls Tryz.prog 133 #[.slice a1 l1.length c1, .slice a2 l2.length c2] w fun e w' => e = .returned (.bool (l1 == l2)) ∧ ∃ m, w' = w.drewN m := by
  obtain ⟨b1, o1, p1, q1⟩ := h1
  obtain ⟨b2, o2, p2, q2⟩ := h2
  have P1 := Lib.hid p1
  have Q1 := Lib.hid q1
  have P2 := Lib.hid p2
  have Q2 := Lib.hid q2
  clear p1 q1 p2 q2
  by_cases hn : l1.length = l2.length
  · have hne : (((l1.length : Nat) : Int) != ((l2.length : Nat) : Int)) = false := by simp [hn]
    have HN := Lib.hid hn
    clear hn
    go_enter Tryz.func133, Tryz.ntmps133
    go_wp2
    go_loopw [13] (fun i wr => Hid (∃ k : Nat, k ≤ l1.length ∧ i = .int .i64 k ∧ (∀ j, j < k → nth l1 j = nth l2 j) ∧ ∃ m, wr = w.drewN m)) (fun i _ => l1.length - (intOf i).toNat)
    case atStart => exact Lib.hid ⟨0, Nat.zero_le _, rfl, fun j hj => absurd hj (Nat.not_lt_zero _), 0, rfl⟩
    case round =>
      obtain ⟨k, hk, rfl, hno, m, rfl⟩ := hrel.out
      have HO := Lib.hid hno
      clear hrel hno
      by_cases hlt : k < l1.length
      · have hlt2 : k < l2.length := by rw [← HN.out]; exact hlt
        obtain ⟨rfl, z1⟩ := P1.out (by omega)
        obtain ⟨rfl, z2⟩ := P2.out (by omega)
        have d1 := Q1.out k hlt
        have d2 := Q2.out k hlt2
        by_cases he : nth l1 k = nth l2 k
        · have hs : Hid (∀ j, j < k + 1 → nth l1 j = nth l2 j) := fun j hj => by
            by_cases hjk : j = k
            · rw [hjk]; exact he
            · exact HO.out j (by omega)
          have hq : (nth l1 k != nth l2 k) = false := by simp [he]
          clear he
          generalize nth l1 k = x at *
          generalize nth l2 k = y at *
          go_wp2
          go_quiet (fail)
          go_wp2
          go_roundw
          case rel => exact Lib.hid ⟨k + 1, by omega, by go_num, hs.out, by first | exact ⟨_, rfl⟩ | exact drawn2 _ _ _⟩
          case measure => simp [intOf]; omega
        · have hs : Hid ((l1 == l2) = false) := by
            unfold Hid; rw [beq_eq_false_iff_ne]; rintro rfl; exact he rfl
          have hq : (nth l1 k != nth l2 k) = true := by simp [he]
          clear he
          generalize nth l1 k = x at *
          generalize nth l2 k = y at *
          go_wp2
          go_quiet (fail)
          go_wp2
          go_ret
          exact ⟨by rw [hs.out]; rfl, by first | exact ⟨_, rfl⟩ | exact drawn2 _ _ _⟩
      · have hs : Hid ((l1 == l2) = true) := by
          unfold Hid; rw [beq_iff_eq]
          refine List.ext_getElem HN.out fun i h1 h2 => ?_
          have := HO.out i (by omega)
          rw [nth_getElem l1 i h1, nth_getElem l2 i h2] at this
          exact this
        go_wp2
        go_ret
        exact ⟨by rw [hs.out]; rfl, by first | exact ⟨_, rfl⟩ | exact drawn2 _ _ _⟩
  · have hne : (((l1.length : Nat) : Int) != ((l2.length : Nat) : Int)) = true := by simp; omega
    have hs : Hid ((l1 == l2) = false) := by
      unfold Hid; rw [beq_eq_false_iff_ne]; rintro rfl; exact hn rfl
    clear hn
    go_enter Tryz.func133, Tryz.ntmps133
    go_wp2
    go_ret
    exact ⟨by rw [hs.out]; rfl, 0, rfl⟩
end Go.Proofs.YtlaamecfknkmlaaGreat
