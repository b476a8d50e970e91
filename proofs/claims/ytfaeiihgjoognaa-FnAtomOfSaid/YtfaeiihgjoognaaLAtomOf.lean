/- For all bytes: in a model drawn from them every state has an atom, told by its facts (FnAtomOf). -/
import Derived.Test.YtfaeiihgjoognaaW
import Derived.Test.YtfaeiihgjoognaaX
namespace Go.Proofs.Ytfaeiihgjoognaa
set_option linter.unusedVariables false
open Go.RowKit Go.Kt

set_option maxRecDepth 100000 in
set_option maxHeartbeats 1600000 in
theorem fnAtomOf_c (a0 : Option Addr) (c0 : Nat) (l0 : List Int) (w : World) (h0 : BytesAt w a0 l0) (hlen0 : l0.length ≤ 9223372036854775807) (hcap0 : l0.length ≤ c0) :
    Calls Try.prog 12 #[.slice a0 l0.length c0] w fun e w' => e = .returned (.bool true) ∧ Ext w w' := by
  by_cases hb : l0.length ≤ 1048576
  · go_enter Try.func12, Try.ntmps12
    go_wp2_with fail
    refine (drawAtomOf_c a0 c0 l0 _ h0 hb hcap0).mono ?_
    rintro e w1 ⟨st, p, q, a, cap, ll, t, rfl, hst, hr, hlc, h3, h8, hx⟩
    have H8 := Lib.hid (fun i hi => Nat.le_trans (h8 i hi) (show 8 ≤ 4194304 by omega))
    have hr1 := Lib.hid hr
    have hx1 := Lib.hid hx
    clear h8 hr hx
    go_wp2_with fail
    refine (iAtomOf_c st p q a cap ll t _ (hr1.out.ext (by (repeat (first | exact Ext.refl _ | assumption | refine Ext.alloc ?_ _ | refine Ext.drewN ?_ _ | refine Ext.drew ?_)))) (by omega) H8.out).mono ?_
    rintro e w2 ⟨rfl, y⟩
    have hb2 := Lib.hid ((box_made w1 37 st p q (.slice a ll.length cap)).ext y)
    have k2 := hb2.out.out
    have hr2 := Lib.hid ((hr1.out.ext (by (repeat (first | exact Ext.refl _ | assumption | refine Ext.alloc ?_ _ | refine Ext.drewN ?_ _ | refine Ext.drew ?_)))).ext y)
    have hx2 := Lib.hid ((hx1.out.trans (by (repeat (first | exact Ext.refl _ | assumption | refine Ext.alloc ?_ _ | refine Ext.drewN ?_ _ | refine Ext.drew ?_)))).trans y)
    clear y hr1 hx1
    have hne : (atomF st p q ll t != atomF st p q ll t) = false := by simp
    go_wp2_with fail
    refine (sAtomOf_c st p q a cap ll t _ (hr2.out.ext (by (repeat (first | exact Ext.refl _ | assumption | refine Ext.alloc ?_ _ | refine Ext.drewN ?_ _ | refine Ext.drew ?_)))) (by omega) H8.out).mono ?_
    rintro e w3 ⟨rfl, y⟩
    have hb3 := Lib.hid ((hb2.out.ext (by (repeat (first | exact Ext.refl _ | assumption | refine Ext.alloc ?_ _ | refine Ext.drewN ?_ _ | refine Ext.drew ?_)))).ext y)
    have k3 := hb3.out.out
    have hr3 := Lib.hid ((hr2.out.ext (by (repeat (first | exact Ext.refl _ | assumption | refine Ext.alloc ?_ _ | refine Ext.drewN ?_ _ | refine Ext.drew ?_)))).ext y)
    have hx3 := Lib.hid ((hx2.out.trans (by (repeat (first | exact Ext.refl _ | assumption | refine Ext.alloc ?_ _ | refine Ext.drewN ?_ _ | refine Ext.drew ?_)))).trans y)
    clear y k2 hb2 hr2 hx2
    cases hv : (mvB st p q ll && inB t 0 (st - 1))
    · have e0 : atomF st p q ll t = -1 := by unfold atomF; rw [hv]; rfl
      go_wp2_with fail
      refine (alive_c _).mono ?_
      rintro e w5 ⟨rfl, rfl⟩
      have hx4 := hx3.out.trans (show Ext w3 _ by (repeat (first | exact Ext.refl _ | assumption | refine Ext.alloc ?_ _ | refine Ext.drewN ?_ _ | refine Ext.drew ?_)))
      go_wp2
      go_ret
      exact ⟨rfl, hx4⟩
    · have e0 : atomF st p q ll t = ((atomI p q t.toNat : Nat) : Int) := by unfold atomF; rw [hv]; rfl
      rw [Bool.and_eq_true] at hv
      obtain ⟨s, P, Q, -, rfl, rfl, h1, h5, hP, hQ⟩ := mvB_nat hv.1
      have hin := hv.2
      simp only [inB, decide_eq_true_eq] at hin
      obtain ⟨T, rfl⟩ := Int.eq_ofNat_of_zero_le hin.1
      have hT : T ≤ 5 := by omega
      have hP32 : P < 4294967296 := Nat.lt_of_lt_of_le hP (Nat.pow_le_pow_right (by decide) (show s ≤ 32 by omega))
      have hQ32 : Q < 4294967296 := Nat.lt_of_lt_of_le hQ (Nat.pow_le_pow_right (by decide) (show s ≤ 32 by omega))
      have hA : atomI (P : Int) (Q : Int) T = (P.testBit T).toNat + 2 * (Q.testBit T).toNat := rfl
      rw [Int.toNat_natCast, hA] at e0
      have hp0 := tmod_bit P T
      have hq0 := tmod_bit Q T
      clear hP hQ hv hA hin
      cases hpb : P.testBit T
      all_goals cases hqb : Q.testBit T
      all_goals
        rw [hpb, hqb] at e0
        rw [hpb] at hp0
        rw [hqb] at hq0
        simp only [Bool.toNat_true, Bool.toNat_false] at hp0 hq0 e0
        go_wp2
        go_ret
        exact ⟨rfl, hx3.out.trans (by (repeat (first | exact Ext.refl _ | assumption | refine Ext.alloc ?_ _ | refine Ext.drewN ?_ _ | refine Ext.drew ?_)))⟩
  · go_enter Try.func12, Try.ntmps12
    go_wp2
    go_ret
    exact ⟨rfl, Ext.refl _⟩
end Go.Proofs.Ytfaeiihgjoognaa
