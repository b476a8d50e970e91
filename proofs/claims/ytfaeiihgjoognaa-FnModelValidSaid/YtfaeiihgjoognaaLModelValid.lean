/- For all bytes: a model drawn from them may have no facts (FnModelValid). -/
import Derived.Test.YtfaeiihgjoognaaW
import Derived.Test.YtfaeiihgjoognaaX
namespace Go.Proofs.Ytfaeiihgjoognaa
set_option linter.unusedVariables false
open Go.RowKit Go.Kt

set_option maxRecDepth 100000 in
set_option maxHeartbeats 1600000 in
theorem fnModelValid_c (a0 : Option Addr) (c0 : Nat) (l0 : List Int) (w : World) (h0 : BytesAt w a0 l0) (hlen0 : l0.length ≤ 9223372036854775807) (hcap0 : l0.length ≤ c0) :
    Calls Try.prog 9 #[.slice a0 l0.length c0] w fun e w' => e = .returned (.bool true) ∧ Ext w w' := by
  by_cases hb : l0.length ≤ 1048576
  · go_enter Try.func9, Try.ntmps9
    go_wp2_with fail
    refine (drawModelValid_c a0 c0 l0 _ h0 hb hcap0).mono ?_
    rintro e w1 ⟨st, p, q, a, cap, ll, rfl, hst, hr, hlc, h3, h8, hx⟩
    have H8 := Lib.hid (fun i hi => Nat.le_trans (h8 i hi) (show 8 ≤ 4194304 by omega))
    have hr1 := Lib.hid hr
    have hx1 := Lib.hid hx
    clear h8 hr hx
    go_wp2_with fail
    refine (iModelValid_c st p q a cap ll _ (hr1.out.ext (by (repeat (first | exact Ext.refl _ | assumption | refine Ext.alloc ?_ _ | refine Ext.drewN ?_ _ | refine Ext.drew ?_)))) (by omega) H8.out).mono ?_
    rintro e w2 ⟨rfl, y⟩
    have hb2 := Lib.hid ((box_made w1 37 st p q (.slice a ll.length cap)).ext y)
    have k2 := hb2.out.out
    have hr2 := Lib.hid ((hr1.out.ext (by (repeat (first | exact Ext.refl _ | assumption | refine Ext.alloc ?_ _ | refine Ext.drewN ?_ _ | refine Ext.drew ?_)))).ext y)
    have hx2 := Lib.hid ((hx1.out.trans (by (repeat (first | exact Ext.refl _ | assumption | refine Ext.alloc ?_ _ | refine Ext.drewN ?_ _ | refine Ext.drew ?_)))).trans y)
    clear y hr1 hx1
    go_wp2_with fail
    refine (sModelValid_c st p q a cap ll _ (hr2.out.ext (by (repeat (first | exact Ext.refl _ | assumption | refine Ext.alloc ?_ _ | refine Ext.drewN ?_ _ | refine Ext.drew ?_)))) (by omega) H8.out).mono ?_
    rintro e w3 ⟨rfl, y⟩
    have hb3 := Lib.hid ((hb2.out.ext (by (repeat (first | exact Ext.refl _ | assumption | refine Ext.alloc ?_ _ | refine Ext.drewN ?_ _ | refine Ext.drew ?_)))).ext y)
    have k3 := hb3.out.out
    have hr3 := Lib.hid ((hr2.out.ext (by (repeat (first | exact Ext.refl _ | assumption | refine Ext.alloc ?_ _ | refine Ext.drewN ?_ _ | refine Ext.drew ?_)))).ext y)
    have hx3 := Lib.hid ((hx2.out.trans (by (repeat (first | exact Ext.refl _ | assumption | refine Ext.alloc ?_ _ | refine Ext.drewN ?_ _ | refine Ext.drew ?_)))).trans y)
    clear y k2 hb2 hr2 hx2
    cases hv : mvB st p q ll
    · go_wp2_with fail
      refine (iModelValid_c 0 0 0 none 0 [] _ ((RowsFrom.nil _ 0 _).rows) (by simp) (fun i hi => absurd hi (by simp))).mono ?_
      rw [show mvB 0 0 0 [] = false by decide]
      rintro e w4 ⟨rfl, y⟩
      have hx4 := hx3.out.trans (Ext.trans (by (repeat (first | exact Ext.refl _ | assumption | refine Ext.alloc ?_ _ | refine Ext.drewN ?_ _ | refine Ext.drew ?_))) y)
      clear y
      go_wp2_with fail
      refine (alive_c _).mono ?_
      rintro e w5 ⟨rfl, rfl⟩
      go_wp2
      go_ret
      exact ⟨rfl, hx4⟩
    · have hz := Lib.hid (mvB_zero hv)
      have hsh := Lib.hid (mvB_short hv)
      obtain ⟨-, -, -, -, -, -, -, -, -, -, -, -, hl3, -⟩ := mvB_bounds hv
      have hl3' : 3 ≤ ll.length := by omega
      have hd : (ll.drop 1).length = ll.length - 1 := by simp
      have HD := Lib.hid hd
      have hn1 : (1 : Int) ≤ (ll.length : Int) := by omega
      have hc1 : ¬ cap = 1 := by omega
      obtain ⟨b, off, q1, -⟩ := hr3.out
      obtain ⟨rfl, -⟩ := q1 (by omega)
      clear hv hl3 q1 hd
      go_wp2
      go_region_law ((first
        | (fail_if_success (have := hx4)
           go_simp; go_at_call 39; refine (iModelValid_c st 0 0 _ cap ll _ (hr3.out.ext (by (repeat (first | exact Ext.refl _ | assumption | refine Ext.alloc ?_ _ | refine Ext.drewN ?_ _ | refine Ext.drew ?_)))) (by omega) H8.out).mono ?_; rw [hz.out]; rintro e w4 ⟨rfl, y⟩
           have hb4 := Lib.hid ((hb3.out.ext (by (repeat (first | exact Ext.refl _ | assumption | refine Ext.alloc ?_ _ | refine Ext.drewN ?_ _ | refine Ext.drew ?_)))).ext y)
           have k4 := hb4.out.out
           have hr4 := Lib.hid ((hr3.out.ext (by (repeat (first | exact Ext.refl _ | assumption | refine Ext.alloc ?_ _ | refine Ext.drewN ?_ _ | refine Ext.drew ?_)))).ext y)
           have hx4 := Lib.hid ((hx3.out.trans (by (repeat (first | exact Ext.refl _ | assumption | refine Ext.alloc ?_ _ | refine Ext.drewN ?_ _ | refine Ext.drew ?_)))).trans y)
           clear y)
        | (go_simp; go_at_call 39
           have hmc := fun w0 hr => iModelValid_c st 0 0 (some ⟨b, off + 1, none⟩) (cap - 1) (ll.drop 1) w0 hr (by rw [HD.out]; omega) (fun i hi => by rw [rowI_drop ll i hi]; exact H8.out _ (by have := HD.out; omega))
           rw [HD.out, hsh.out] at hmc
           refine (hmc _ (RowsAt.tail' (hr4.out.ext (by (repeat (first | exact Ext.refl _ | assumption | refine Ext.alloc ?_ _ | refine Ext.drewN ?_ _ | refine Ext.drew ?_)))))).mono ?_; rintro e w5 ⟨rfl, y⟩
           have hx5 := Lib.hid ((hx4.out.trans (by (repeat (first | exact Ext.refl _ | assumption | refine Ext.alloc ?_ _ | refine Ext.drewN ?_ _ | refine Ext.drew ?_)))).trans y)
           clear y hmc)))
      all_goals
        go_wp2
        go_ret
        exact ⟨rfl, by first | exact hx5.out | exact hx5.out.trans (by (repeat (first | exact Ext.refl _ | assumption | refine Ext.alloc ?_ _ | refine Ext.drewN ?_ _ | refine Ext.drew ?_)))⟩
  · go_enter Try.func9, Try.ntmps9
    go_wp2
    go_ret
    exact ⟨rfl, Ext.refl _⟩
end Go.Proofs.Ytfaeiihgjoognaa
