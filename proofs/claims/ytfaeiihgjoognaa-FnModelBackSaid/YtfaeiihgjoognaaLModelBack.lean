/- For all bytes: a model drawn from them is, twice back, as before (FnModelBack). -/
import Derived.Test.YtfaeiihgjoognaaW
import Derived.Test.YtfaeiihgjoognaaX
namespace Go.Proofs.Ytfaeiihgjoognaa
set_option linter.unusedVariables false
open Go.RowKit Go.Kt

set_option maxRecDepth 100000 in
set_option maxHeartbeats 1600000 in
theorem fnModelBack_c (a0 : Option Addr) (c0 : Nat) (l0 : List Int) (w : World) (h0 : BytesAt w a0 l0) (hlen0 : l0.length ≤ 9223372036854775807) (hcap0 : l0.length ≤ c0) :
    Calls Try.prog 20 #[.slice a0 l0.length c0] w fun e w' => e = .returned (.bool true) ∧ Ext w w' := by
  by_cases hb : l0.length ≤ 1048576
  · go_enter Try.func20, Try.ntmps20
    go_wp2_with fail
    refine (drawModelBack_c a0 c0 l0 _ h0 hb hcap0).mono ?_
    rintro e w1 ⟨st, p, q, a, cap, ll, rfl, hst, hr, hlc, h3, h8, hx⟩
    have H8 := Lib.hid (fun i hi => Nat.le_trans (h8 i hi) (show 8 ≤ 4194304 by omega))
    have hrow5 : ∀ i, i < (mbL st p q ll).length → (rowI (mbL st p q ll) i).length ≤ 4194304 := fun i hi => by
      have h1 := totTo_row (mbL st p q ll) i _ hi
      have h2 := mbL_tot st p q ll
      omega
    have H5 := Lib.hid hrow5
    have hl5 := mbL_len st p q ll
    have hr1 := Lib.hid hr
    have hx1 := Lib.hid hx
    clear h8 hrow5 hr hx
    go_wp2_with fail
    refine (iModelBack_c st p q a cap ll _ (hr1.out.ext (by (repeat (first | exact Ext.refl _ | assumption | refine Ext.alloc ?_ _ | refine Ext.drewN ?_ _ | refine Ext.drew ?_)))) (by omega) H8.out).mono ?_
    rintro e w2 ⟨v2, rfl, o2, y2⟩
    obtain ⟨a2, c2, rfl⟩ := o2.shape
    have r2 := Lib.hid o2.rows
    have k1 := ((box_made w1 37 st p q (.slice a ll.length cap)).ext y2).out
    have hb1 := Lib.hid ((box_made w1 37 st p q (.slice a ll.length cap)).ext y2)
    have z1 := hb1.out.lt
    have hr2 := Lib.hid ((hr1.out.ext (by (repeat (first | exact Ext.refl _ | assumption | refine Ext.alloc ?_ _ | refine Ext.drewN ?_ _ | refine Ext.drew ?_)))).ext y2)
    have hx2 := Lib.hid ((hx1.out.trans (by (repeat (first | exact Ext.refl _ | assumption | refine Ext.alloc ?_ _ | refine Ext.drewN ?_ _ | refine Ext.drew ?_)))).trans y2)
    have g2 := Lib.hid (box_made w2 37 (mbI st p q ll st) (mbI st p q ll p) (mbI st p q ll q) (.slice a2 (mbL st p q ll).length c2))
    clear o2 y2
    go_wp2
    go_region_law ((first
      | (go_simp; go_at_call 62; refine (sModelBack_c st p q a cap ll _ (hr2.out.ext (by (repeat (first | exact Ext.refl _ | assumption | refine Ext.alloc ?_ _ | refine Ext.drewN ?_ _ | refine Ext.drew ?_)))) (by omega) H8.out).mono ?_; rintro e w3 ⟨v3, rfl, o3, y3⟩; obtain ⟨a3, c3, rfl⟩ := o3.shape
         have r3 := Lib.hid o3.rows
         have r23 := Lib.hid ((r2.out.ext (by (repeat (first | exact Ext.refl _ | assumption | refine Ext.alloc ?_ _ | refine Ext.drewN ?_ _ | refine Ext.drew ?_)))).ext y3)
         have hb3 := Lib.hid ((hb1.out.ext (by (repeat (first | exact Ext.refl _ | assumption | refine Ext.alloc ?_ _ | refine Ext.drewN ?_ _ | refine Ext.drew ?_)))).ext y3)
         have g3 := Lib.hid ((g2.out.ext (by (repeat (first | exact Ext.refl _ | assumption | refine Ext.alloc ?_ _ | refine Ext.drewN ?_ _ | refine Ext.drew ?_)))).ext y3)
         have k3 := hb3.out.out
         have k3' := g3.out.out
         have hr3 := Lib.hid ((hr2.out.ext (by (repeat (first | exact Ext.refl _ | assumption | refine Ext.alloc ?_ _ | refine Ext.drewN ?_ _ | refine Ext.drew ?_)))).ext y3)
         have hx3 := Lib.hid ((hx2.out.trans (by (repeat (first | exact Ext.refl _ | assumption | refine Ext.alloc ?_ _ | refine Ext.drewN ?_ _ | refine Ext.drew ?_)))).trans y3)
         clear o3 y3)
      | (go_simp; go_at_call 61; refine (sameModel_c _ _ _ a2 a3 c2 c3 (mbL st p q ll) _ (r23.out.ext (by (repeat (first | exact Ext.refl _ | assumption | refine Ext.alloc ?_ _ | refine Ext.drewN ?_ _ | refine Ext.drew ?_)))) (r3.out.ext (by (repeat (first | exact Ext.refl _ | assumption | refine Ext.alloc ?_ _ | refine Ext.drewN ?_ _ | refine Ext.drew ?_)))) (by omega) (fun i hi => Nat.le_trans (H5.out i hi) (by omega))).mono ?_; rintro e w4 ⟨rfl, y4⟩
         have r24 := Lib.hid ((r23.out.ext (by (repeat (first | exact Ext.refl _ | assumption | refine Ext.alloc ?_ _ | refine Ext.drewN ?_ _ | refine Ext.drew ?_)))).ext y4)
         have hb4 := Lib.hid ((hb3.out.ext (by (repeat (first | exact Ext.refl _ | assumption | refine Ext.alloc ?_ _ | refine Ext.drewN ?_ _ | refine Ext.drew ?_)))).ext y4)
         have g4 := Lib.hid ((g3.out.ext (by (repeat (first | exact Ext.refl _ | assumption | refine Ext.alloc ?_ _ | refine Ext.drewN ?_ _ | refine Ext.drew ?_)))).ext y4)
         have k4 := hb4.out.out
         have hr4 := Lib.hid ((hr3.out.ext (by (repeat (first | exact Ext.refl _ | assumption | refine Ext.alloc ?_ _ | refine Ext.drewN ?_ _ | refine Ext.drew ?_)))).ext y4)
         have hx4 := Lib.hid ((hx3.out.trans (by (repeat (first | exact Ext.refl _ | assumption | refine Ext.alloc ?_ _ | refine Ext.drewN ?_ _ | refine Ext.drew ?_)))).trans y4)
         clear y4)
      | fail))
    all_goals
      clear k3 k3' k1 z1 hb1 hb3 g2 g3 hr1 hr2 hr3 hx1 hx2 hx3 r2 r23 r3
      go_wp2_with fail
      refine (sModelValid_c st p q a cap ll _ (hr4.out.ext (by (repeat (first | exact Ext.refl _ | assumption | refine Ext.alloc ?_ _ | refine Ext.drewN ?_ _ | refine Ext.drew ?_)))) (by omega) H8.out).mono ?_
      rintro e w5 ⟨rfl, y⟩
      have r5 := Lib.hid ((r24.out.ext (by (repeat (first | exact Ext.refl _ | assumption | refine Ext.alloc ?_ _ | refine Ext.drewN ?_ _ | refine Ext.drew ?_)))).ext y)
      have hb5 := Lib.hid ((hb4.out.ext (by (repeat (first | exact Ext.refl _ | assumption | refine Ext.alloc ?_ _ | refine Ext.drewN ?_ _ | refine Ext.drew ?_)))).ext y)
      have g5 := (g4.out.ext (by (repeat (first | exact Ext.refl _ | assumption | refine Ext.alloc ?_ _ | refine Ext.drewN ?_ _ | refine Ext.drew ?_)))).ext y
      have k5 := hb5.out.out
      have hr5 := Lib.hid ((hr4.out.ext (by (repeat (first | exact Ext.refl _ | assumption | refine Ext.alloc ?_ _ | refine Ext.drewN ?_ _ | refine Ext.drew ?_)))).ext y)
      have hx5 := Lib.hid ((hx4.out.trans (by (repeat (first | exact Ext.refl _ | assumption | refine Ext.alloc ?_ _ | refine Ext.drewN ?_ _ | refine Ext.drew ?_)))).trans y)
      clear y k4 r24 hb4 g4 hr4 hx4
      cases hv : mvB st p q ll
      · have e0 : mbI st p q ll st = 0 := by unfold mbI; rw [hv]; rfl
        have k6 := g5.out
        rw [e0] at k6
        clear g5
        go_wp2_with fail
        refine (alive_c _).mono ?_
        rintro e w6 ⟨rfl, rfl⟩
        have hx6 := hx5.out.trans (show Ext w5 _ by (repeat (first | exact Ext.refl _ | assumption | refine Ext.alloc ?_ _ | refine Ext.drewN ?_ _ | refine Ext.drew ?_)))
        go_wp2
        go_ret
        exact ⟨rfl, hx6⟩
      · obtain ⟨e1, e2, e3, hv2, hLL⟩ := mb_back hv
        rw [e1, e2, e3] at g5
        have E1 := mb_back hv2
        obtain ⟨e4, e5, e6, -, -⟩ := E1
        have HV2 := Lib.hid hv2
        have HLL := Lib.hid hLL
        have G5 := Lib.hid g5
        have k6 := g5.out
        have E4 := Lib.hid e4
        have E5 := Lib.hid e5
        have E6 := Lib.hid e6
        clear e1 e2 e3 hv2 hLL g5 hv e4 e5 e6
        go_wp2
        go_region_law ((first
          | (go_simp; go_at_call 39; refine (iModelValid_c st p q a2 c2 (mbL st p q ll) _ (r5.out.ext (by (repeat (first | exact Ext.refl _ | assumption | refine Ext.alloc ?_ _ | refine Ext.drewN ?_ _ | refine Ext.drew ?_)))) (by omega) H5.out).mono ?_; rw [HV2.out]; rintro e w6 ⟨rfl, y⟩
             have r6 := Lib.hid ((r5.out.ext (by (repeat (first | exact Ext.refl _ | assumption | refine Ext.alloc ?_ _ | refine Ext.drewN ?_ _ | refine Ext.drew ?_)))).ext y)
             have k7 := ((G5.out.ext (by (repeat (first | exact Ext.refl _ | assumption | refine Ext.alloc ?_ _ | refine Ext.drewN ?_ _ | refine Ext.drew ?_)))).ext y).out
             have hb6 := Lib.hid ((hb5.out.ext (by (repeat (first | exact Ext.refl _ | assumption | refine Ext.alloc ?_ _ | refine Ext.drewN ?_ _ | refine Ext.drew ?_)))).ext y)
             have k8 := hb6.out.out
             have hr6 := Lib.hid ((hr5.out.ext (by (repeat (first | exact Ext.refl _ | assumption | refine Ext.alloc ?_ _ | refine Ext.drewN ?_ _ | refine Ext.drew ?_)))).ext y)
             have hx6 := Lib.hid ((hx5.out.trans (by (repeat (first | exact Ext.refl _ | assumption | refine Ext.alloc ?_ _ | refine Ext.drewN ?_ _ | refine Ext.drew ?_)))).trans y)
             clear y)
          | (go_simp; go_at_call 60; refine (iModelBack_c st p q a2 c2 (mbL st p q ll) _ (r6.out.ext (by (repeat (first | exact Ext.refl _ | assumption | refine Ext.alloc ?_ _ | refine Ext.drewN ?_ _ | refine Ext.drew ?_)))) (by omega) H5.out).mono ?_; rw [E4.out, E5.out, E6.out, HLL.out]; rintro e w7 ⟨v7, rfl, o7, y⟩; obtain ⟨a7, c7, rfl⟩ := o7.shape
             have r7 := Lib.hid o7.rows
             have hb7 := (hb6.out.ext (by (repeat (first | exact Ext.refl _ | assumption | refine Ext.alloc ?_ _ | refine Ext.drewN ?_ _ | refine Ext.drew ?_)))).ext y
             have k9 := hb7.out
             have hr7 := Lib.hid ((hr6.out.ext (by (repeat (first | exact Ext.refl _ | assumption | refine Ext.alloc ?_ _ | refine Ext.drewN ?_ _ | refine Ext.drew ?_)))).ext y)
             have hx7 := Lib.hid ((hx6.out.trans (by (repeat (first | exact Ext.refl _ | assumption | refine Ext.alloc ?_ _ | refine Ext.drewN ?_ _ | refine Ext.drew ?_)))).trans y)
             clear y o7)
          | (go_simp; go_at_call 61; refine (sameModel_c st p q a7 a c7 cap ll _ (r7.out.ext (by (repeat (first | exact Ext.refl _ | assumption | refine Ext.alloc ?_ _ | refine Ext.drewN ?_ _ | refine Ext.drew ?_)))) (hr7.out.ext (by (repeat (first | exact Ext.refl _ | assumption | refine Ext.alloc ?_ _ | refine Ext.drewN ?_ _ | refine Ext.drew ?_)))) (by omega) (fun i hi => Nat.le_trans (H8.out i hi) (by omega))).mono ?_; rintro e w8 ⟨rfl, y⟩
             have hx8 := Lib.hid ((hx7.out.trans (by (repeat (first | exact Ext.refl _ | assumption | refine Ext.alloc ?_ _ | refine Ext.drewN ?_ _ | refine Ext.drew ?_)))).trans y)
             clear y)
          | fail))
        all_goals
          go_wp2
          go_ret
          exact ⟨rfl, by first | exact hx8.out | exact hx8.out.trans (by (repeat (first | exact Ext.refl _ | assumption | refine Ext.alloc ?_ _ | refine Ext.drewN ?_ _ | refine Ext.drew ?_)))⟩
  · go_enter Try.func20, Try.ntmps20
    go_wp2
    go_ret
    exact ⟨rfl, Ext.refl _⟩
end Go.Proofs.Ytfaeiihgjoognaa
