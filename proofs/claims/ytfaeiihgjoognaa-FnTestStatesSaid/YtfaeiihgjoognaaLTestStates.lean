/- For all bytes: in a model drawn from them a test and its negation hold in all states (FnTestStates). -/
import Derived.Test.YtfaeiihgjoognaaW
import Derived.Test.YtfaeiihgjoognaaX
import Derived.Lib.QuietBelow
namespace Go.Proofs.Ytfaeiihgjoognaa
set_option linter.unusedVariables false
open Go.RowKit Go.Kt Go.Sort

theorem wp_region_below_lit {P : Program} {id : Nat} {Q : Exit → Act → World → Prop} {a : Act} {w : World} {ops : Array Oper} (hm : P.follows .mixedOrders = true) (hB : Region.lexB .any ops = true)
    (h : wpQuiet P ops (fun w' => ∃ p : Regrown, w' = grow (redrawn w p.d) p.os) (fun a' => ∀ w', (∃ p : Regrown, w' = grow (redrawn w p.d) p.os) → Q .normal a' w') ops.toList a) : (Code.region id ops true).wp P Q a w := by
  obtain ⟨l⟩ := ops
  exact wp_region_quiet_below hm hB h
set_option maxRecDepth 100000 in
set_option maxHeartbeats 4000000 in
theorem fnTestStates_c (a0 : Option Addr) (c0 : Nat) (l0 : List Int) (w : World) (h0 : BytesAt w a0 l0) (hlen0 : l0.length ≤ 9223372036854775807) (hcap0 : l0.length ≤ c0) :
    Calls Try.prog 18 #[.slice a0 l0.length c0] w fun e w' => e = .returned (.bool true) ∧ Ext w w' := by
  by_cases hb : l0.length ≤ 1048576
  · go_enter Try.func18, Try.ntmps18
    go_wp2_with fail
    refine (drawTestStates_c a0 c0 l0 _ h0 hb hcap0).mono ?_
    rintro e w1 ⟨st, p, q, a, cap, ll, t, rfl, hst, hr, hlc, h3, h8, hx⟩
    have H8 := Lib.hid (fun i hi => Nat.le_trans (h8 i hi) (show 8 ≤ 4194304 by omega))
    have hr1 := Lib.hid hr
    have hx1 := Lib.hid hx
    clear h8 hr hx
    go_wp2_with fail
    refine (iTestStates_c st p q a cap ll t _ (hr1.out.ext (by (repeat (first | exact Ext.refl _ | assumption | refine Ext.alloc ?_ _ | refine Ext.drewN ?_ _ | refine Ext.drew ?_)))) (by omega) H8.out).mono ?_
    rintro e w2 ⟨rfl, y⟩
    have hb2 := Lib.hid ((box_made w1 37 st p q (.slice a ll.length cap)).ext y)
    have k2 := hb2.out.out
    have hr2 := Lib.hid ((hr1.out.ext (by (repeat (first | exact Ext.refl _ | assumption | refine Ext.alloc ?_ _ | refine Ext.drewN ?_ _ | refine Ext.drew ?_)))).ext y)
    have hx2 := Lib.hid ((hx1.out.trans (by (repeat (first | exact Ext.refl _ | assumption | refine Ext.alloc ?_ _ | refine Ext.drewN ?_ _ | refine Ext.drew ?_)))).trans y)
    clear y hr1 hx1
    have hne : (testF st p q ll t != testF st p q ll t) = false := by simp
    go_wp2_with fail
    refine (sTestStates_c st p q a cap ll t _ (hr2.out.ext (by (repeat (first | exact Ext.refl _ | assumption | refine Ext.alloc ?_ _ | refine Ext.drewN ?_ _ | refine Ext.drew ?_)))) (by omega) H8.out).mono ?_
    rintro e w3 ⟨rfl, y⟩
    have hb3 := Lib.hid ((hb2.out.ext (by (repeat (first | exact Ext.refl _ | assumption | refine Ext.alloc ?_ _ | refine Ext.drewN ?_ _ | refine Ext.drew ?_)))).ext y)
    have k3 := hb3.out.out
    have hr3 := Lib.hid ((hr2.out.ext (by (repeat (first | exact Ext.refl _ | assumption | refine Ext.alloc ?_ _ | refine Ext.drewN ?_ _ | refine Ext.drew ?_)))).ext y)
    have hx3 := Lib.hid ((hx2.out.trans (by (repeat (first | exact Ext.refl _ | assumption | refine Ext.alloc ?_ _ | refine Ext.drewN ?_ _ | refine Ext.drew ?_)))).trans y)
    clear y k2 hb2 hr2 hx2
    cases hv : (mvB st p q ll && inB t 0 15)
    · have e0 : testF st p q ll t = -1 := by unfold testF; rw [hv]; rfl
      go_wp2_with fail
      refine (alive_c _).mono ?_
      rintro e w5 ⟨rfl, rfl⟩
      have hx4 := hx3.out.trans (show Ext w3 _ by (repeat (first | exact Ext.refl _ | assumption | refine Ext.alloc ?_ _ | refine Ext.drewN ?_ _ | refine Ext.drew ?_)))
      go_wp2
      go_ret
      exact ⟨rfl, hx4⟩
    · have e0 : testF st p q ll t = ((tsTo p q t.toNat st : Nat) : Int) := by unfold testF; rw [hv, Int.toNat_natCast]; rfl
      rw [Bool.and_eq_true] at hv
      obtain ⟨s, P, Q, hs, rfl, rfl, h1, h5, hP, hQ⟩ := mvB_nat hv.1
      obtain rfl : st = s := by omega
      have hmv := hv.1
      have hin := hv.2
      simp only [inB, decide_eq_true_eq] at hin
      obtain ⟨T, rfl⟩ := Int.eq_ofNat_of_zero_le hin.1
      have hT : T ≤ 15 := by omega
      have hnot : notF (T : Int) = ((15 - T : Nat) : Int) := by
        have : inB (T : Int) 0 15 = true := hv.2
        simp only [notF, this, if_true]; omega
      have tv : ∀ u : Nat, u ≤ 15 → testF st P Q ll u = ((tsTo P Q u st : Nat) : Int) := fun u hu => by
        have : inB (u : Int) 0 15 = true := by simp [inB]; omega
        simp [testF, hmv, this]
      obtain ⟨V, hV⟩ : ∃ V : Int, V = ((15 - T : Nat) : Int) := ⟨_, rfl⟩
      have t10a : testF st P Q ll 10 = ((P : Nat) : Int) := by
        have h := tv 10 (by omega)
        rw [ts_10 P Q st hP] at h
        exact h
      have t10 := Lib.hid t10a
      have t12a : testF st P Q ll 12 = ((Q : Nat) : Int) := by
        have h := tv 12 (by omega)
        rw [ts_12 P Q st hQ] at h
        exact h
      have t12 := Lib.hid t12a
      clear t10a t12a
      have tn0 := tv (15 - T) (by omega)
      rw [← hV] at tn0
      have tn := Lib.hid tn0
      have hsum := ts_not P Q T hT st
      have hpc := pow2_cast st
      have hp5 : pow2 st ≤ 64 := pow2_le st 6 (by omega)
      rw [← hV] at hnot
      have HN := Lib.hid hnot
      rw [Int.toNat_natCast] at e0
      have hlt := tsTo_lt P Q T st
      generalize tsTo P Q T st = X at *
      generalize tsTo P Q (15 - T) st = Y at *
      obtain ⟨Z, hZ⟩ : ∃ Z : Nat, Z + 1 = pow2 st := ⟨X + Y, hsum⟩
      have f1 : IntKind.i64.wrap ((X : Int) + (Y : Int)) = (Z : Int) := by rw [IntWalk.i64_in _ (by omega)]; omega
      have f2 : IntKind.i64.wrap ((pow2 st : Nat) : Int) = ((pow2 st : Nat) : Int) := IntWalk.i64_in _ (by omega)
      have f3 : IntKind.i64.wrap (((pow2 st : Nat) : Int) - 1) = (Z : Int) := by rw [IntWalk.i64_in _ (by omega)]; omega
      have q1 : ((Z : Int) == (Z : Int)) = true := by simp
      have q2 : ((P : Int) == (P : Int)) = true := by simp
      have q3 : ((Q : Int) == (Q : Int)) = true := by simp
      clear hsum hZ hlt hv hmv hin tv hnot hP hQ hV tn0
      go_wp2
      have k0 := cell_regrown (hb3.out.1)
      have k1 := cell_regrown (hb3.out.2.1)
      have k2 := cell_regrown (hb3.out.2.2.1)
      have k3' := cell_regrown (hb3.out.2.2.2)
      have cN : ∀ d os, Calls Try.prog 57 #[.int .i64 T] (grow (redrawn w3 d) os) fun e w'' => e = .returned (.int .i64 V) ∧ ∃ p : Regrown, w'' = grow (redrawn w3 p.d) p.os := fun d os =>
        (iTestNot_c T _).mono fun e w' h => ⟨by rw [← HN.out]; exact h.1, ⟨d, os⟩, h.2.symm⟩
      have cV : ∀ d os, Calls Try.prog 55 #[modelV st P Q a ll.length cap, .int .i64 V] (grow (redrawn w3 d) os) fun e w'' => e = .returned (.int .i64 Y) ∧ ∃ p : Regrown, w'' = grow (redrawn w3 p.d) p.os := fun d os =>
        Calls.regrown_of (by have := iTestStates_c st P Q a cap ll V (grow (redrawn w3 d) os) (hr3.out.ext (below_regrown w3 d os)) (by omega) H8.out; rw [tn.out] at this; exact this)
      have cA : ∀ d os, Calls Try.prog 55 #[modelV st P Q a ll.length cap, .int .i64 10] (grow (redrawn w3 d) os) fun e w'' => e = .returned (.int .i64 P) ∧ ∃ p : Regrown, w'' = grow (redrawn w3 p.d) p.os := fun d os =>
        Calls.regrown_of (by have := iTestStates_c st P Q a cap ll 10 (grow (redrawn w3 d) os) (hr3.out.ext (below_regrown w3 d os)) (by omega) H8.out; rw [t10.out] at this; exact this)
      have cB : ∀ d os, Calls Try.prog 55 #[modelV st P Q a ll.length cap, .int .i64 12] (grow (redrawn w3 d) os) fun e w'' => e = .returned (.int .i64 Q) ∧ ∃ p : Regrown, w'' = grow (redrawn w3 p.d) p.os := fun d os =>
        Calls.regrown_of (by have := iTestStates_c st P Q a cap ll 12 (grow (redrawn w3 d) os) (hr3.out.ext (below_regrown w3 d os)) (by omega) H8.out; rw [t12.out] at this; exact this)
      have HX3 := hx3
      clear hb3 k3 hr3 hx3
      refine wp_region_below_lit (by kernel_rfl) (by kernel_rfl) ?_
      repeat (quiet_step (first | (go_at_call 57; exact cN _ _) | (go_at_call 55; first | with_reducible exact cV _ _ | with_reducible exact cA _ _ | with_reducible exact cB _ _)))
      refine wpQuiet_nil ?_
      intro _ hw'
      obtain ⟨⟨dq, osq⟩, hw''⟩ := hw'
      subst hw''
      have hx4 := HX3.out.trans (below_regrown w3 dq osq)
      go_wp2
      go_ret
      exact ⟨rfl, hx4⟩
  · go_enter Try.func18, Try.ntmps18
    go_wp2
    go_ret
    exact ⟨rfl, Ext.refl _⟩
end Go.Proofs.Ytfaeiihgjoognaa
