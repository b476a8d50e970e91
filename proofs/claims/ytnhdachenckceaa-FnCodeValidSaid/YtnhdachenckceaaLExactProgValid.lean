/- For every list: the program's ProgValid answers what the reference's does, and leaves the list alone (FnExactProgValid). -/
import Derived.Test.YtnhdachenckceaaPb
namespace Go.Proofs.Ytnhdachenckceaa
set_option linter.unusedVariables false
open Go.RowKit Go.Kt

theorem hiProgram : Try.prog.underlying 56 = some (.interface (Try.prog.methodsAt 56)) := by rfl
theorem neqHeld (u : TypeId) (x : Value) (w : World) : (binOp .neq 56 (.iface u x) .nilIface).run Try.prog w = .ok (.bool true) w := run_neq_held_nil (h := hiProgram) ..
theorem neqNil (w : World) : (binOp .neq 56 .nilIface .nilIface).run Try.prog w = .ok (.bool false) w := run_neq_nil_nil (h := hiProgram) ..
theorem eqlHeld (u : TypeId) (x : Value) (w : World) : (binOp .eql 56 (.iface u x) .nilIface).run Try.prog w = .ok (.bool false) w := run_eql_held_nil (h := hiProgram) ..
theorem eqlNil (w : World) : (binOp .eql 56 .nilIface .nilIface).run Try.prog w = .ok (.bool true) w := run_eql_nil_nil (h := hiProgram) ..
theorem iProgValid_c (a : Option Addr) (cap : Nat) (l : List Int) (w : World) (hl : IntsAt w a l) (hlen : l.length ≤ 4194304) :
    Calls Try.prog 17 #[.slice a l.length cap] w fun e w' => e = .returned (.bool (pvB l)) ∧ Ext w w' := by
  go_enter Try.func17, Try.ntmps17
  go_wp2_with fail
  refine (readProgram_c a cap l _ hl hlen).mono ?_
  rintro e w1 ⟨⟨v, rfl, hv⟩, hx⟩
  rcases hv with ⟨hp, t, -, -, rfl⟩ | ⟨hp, rfl⟩
  · obtain ⟨u, y, hy⟩ := pv_held t
    rw [hy]
    clear hy
    have q := neqHeld u y
    go_wp2
    go_ret
    exact ⟨by rw [hp]; rfl, by first | exact hx | exact Ext.trans (by (repeat (first | exact Ext.refl _ | assumption | refine Ext.alloc ?_ _ | refine Ext.drewN ?_ _ | refine Ext.drew ?_))) hx⟩
  · have q := neqNil
    go_wp2
    go_ret
    exact ⟨by rw [hp]; rfl, by first | exact hx | exact Ext.trans (by (repeat (first | exact Ext.refl _ | assumption | refine Ext.alloc ?_ _ | refine Ext.drewN ?_ _ | refine Ext.drew ?_))) hx⟩
set_option maxHeartbeats 400000 in
theorem fnExactProgValid_c (a : Option Addr) (cap : Nat) (l : List Int) (w : World) (hl : IntsAt w a l) (hlen : l.length ≤ 9223372036854775807) :
    Calls Try.prog 3 #[.slice a l.length cap] w fun e w' => e = .returned (.bool true) ∧ Ext w w' := by
  by_cases hb : l.length ≤ 1048576
  · have hlen : l.length ≤ 4194304 := by omega
    go_enter Try.func3, Try.ntmps3
    go_wp2_with fail
    refine (toIntS_c a cap l _ hl (by omega)).mono ?_
    rintro e w1 ⟨v1, rfl, ho1, hx1⟩
    obtain ⟨a1, c1, rfl, hi1⟩ := ho1.shape
    clear ho1
    go_wp2_with fail
    refine (sProgValid_c a1 c1 l w1 hi1 hlen).mono ?_
    rintro e w2 ⟨rfl, rfl⟩
    have hl2 := hl.ext hx1
    clear hi1
    go_wp2_with fail
    refine (toIntS_c a cap l _ hl2 (by omega)).mono ?_
    rintro e w3 ⟨v3, rfl, ho3, hx3⟩
    obtain ⟨a3, c3, rfl, hi3⟩ := ho3.shape
    have hx3 := hx1.trans hx3
    have hl3 := hl.ext hx3
    clear ho3 hx1 hl2
    go_wp2_with fail
    refine (iProgValid_c a3 c3 l w3 hi3 hlen).mono ?_
    rintro e w4 ⟨rfl, hx4⟩
    have hi4 := hi3.ext hx4
    have hx4 := hx3.trans hx4
    have hl4 := hl.ext hx4
    clear hi3 hx3 hl3
    cases hrv : pvB l
    all_goals
      go_wp2_with fail
      refine (toIntS_c a cap l _ hl4 (by omega)).mono ?_
      rintro e w5 ⟨v5, rfl, ho5, hx5⟩
      obtain ⟨a5, c5, rfl, hi5⟩ := ho5.shape
      have hi5' := hi4.ext hx5
      have hx5 := hx4.trans hx5
      clear ho5
      have hq : (l == l) = true := by simp
      go_wp2_with fail
      refine (eqIntS_c a3 a5 c3 c5 l l w5 hi5' hi5 (by omega) (by omega)).mono ?_
      rintro e w6 ⟨rfl, hx6⟩
      have hx6 := hx5.trans hx6
      go_wp2
      go_ret
      exact ⟨rfl, hx6⟩
  · go_enter Try.func3, Try.ntmps3
    go_wp2
    go_ret
    exact ⟨rfl, Ext.refl _⟩
end Go.Proofs.Ytnhdachenckceaa
