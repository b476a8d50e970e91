/- For every number and every list: the program's RowsValid answers what the reference's does, and leaves the list alone (FnExactRowsValid). -/
import Derived.Test.YtfaeiihgjoognaaC
namespace Go.Proofs.Ytfaeiihgjoognaa
open Go.RowKit Go.Kt

set_option maxHeartbeats 400000 in
theorem fnExactRowsValid_c (n : Int) (a : Option Addr) (cap : Nat) (l : List Int) (w : World) (hl : IntsAt w a l) (hlen : l.length ≤ 9223372036854775807) :
    Calls Try.prog 3 #[.int .i64 n, .slice a l.length cap] w fun e w' => e = .returned (.bool true) ∧ Ext w w' := by
  by_cases hb : l.length ≤ 1048576
  · have hlen : l.length ≤ 4611686018427387904 := by omega
    go_enter Try.func3, Try.ntmps3
    go_wp2_with fail
    refine (toIntS_c a cap l _ hl (by omega)).mono ?_
    rintro e w1 ⟨v1, rfl, ho1, hx1⟩
    obtain ⟨a1, c1, rfl, hi1⟩ := ho1.shape
    clear ho1
    go_wp2_with fail
    refine (sRowsValid_c n a1 c1 l w1 hi1 hlen).mono ?_
    rintro e w2 ⟨rfl, m, rfl⟩
    have hx2 : Ext w (w1.drewN m) := hx1.drewN m
    have hl2 := hl.ext hx2
    clear hi1 hx1
    go_wp2_with fail
    refine (toIntS_c a cap l _ hl2 (by omega)).mono ?_
    rintro e w3 ⟨v3, rfl, ho3, hx3⟩
    obtain ⟨a3, c3, rfl, hi3⟩ := ho3.shape
    have hx3 := hx2.trans hx3
    have hl3 := hl.ext hx3
    clear ho3 hx2 hl2
    go_wp2_with fail
    refine (iRowsValid_c n a3 c3 l w3 hi3 hlen).mono ?_
    rintro e w4 ⟨rfl, hx4⟩
    have hi4 := hi3.ext hx4
    have hx4 := hx3.trans hx4
    have hl4 := hl.ext hx4
    clear hi3 hx3 hl3
    cases hrv : rvB n l
    all_goals
      go_wp2_with fail
      refine (toIntS_c a cap l _ hl4 (by omega)).mono ?_
      rintro e w5 ⟨v5, rfl, ho5, hx5⟩
      obtain ⟨a5, c5, rfl, hi5⟩ := ho5.shape
      have hi5' := hi4.ext hx5
      have hx5 := hx4.trans hx5
      clear ho5
      have hq : (l == l) = true := by simp
      go_wp2_with fail
      refine (eqIntS_c a3 a5 c3 c5 l l w5 hi5' hi5 hlen hlen).mono ?_
      rintro e w6 ⟨rfl, hx6⟩
      have hx6 := hx5.trans hx6
      go_wp2
      go_ret
      exact ⟨rfl, hx6⟩
  · go_enter Try.func3, Try.ntmps3
    go_wp2
    go_ret
    exact ⟨rfl, Ext.refl _⟩
end Go.Proofs.Ytfaeiihgjoognaa
