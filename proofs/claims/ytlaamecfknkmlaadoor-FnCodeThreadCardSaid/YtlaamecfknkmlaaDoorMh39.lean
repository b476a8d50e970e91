/- Merged texts: contracts and plain lemmas (K). -/
import Derived.Test.YtlaamecfknkmlaaDoorMh7
/- Contracts: models whose actions lead to just one state. -/
namespace Go.Proofs.YtlaamecfknkmlaaDoor
set_option linter.unusedVariables false
open Go.RowKit Go.Kt

/-- Certain. -/
def allOne (r : List Int) : Bool := (List.range r.length).all fun j => oneN (natAt r j)
def certF (st p q : Int) (ll : List (List Int)) : Bool := mvB st p q ll && (List.range ll.length).all fun k => allOne (rowI ll k)
theorem allOne_of {r : List Int} (h : ∀ j, j < r.length → oneN (natAt r j) = true) : allOne r = true := by
  unfold allOne; rw [List.all_eq_true]; intro j hj; exact h j (List.mem_range.1 hj)
theorem allOne_not {r : List Int} {j : Nat} (hj : j < r.length) (h : oneN (natAt r j) = false) : allOne r = false := by
  unfold allOne; rw [List.all_eq_false]; exact ⟨j, List.mem_range.2 hj, by simp [h]⟩
theorem certF_of {st p q : Int} {ll : List (List Int)} (hv : mvB st p q ll = true) (h : ∀ j, j < ll.length → allOne (rowI ll j) = true) : certF st p q ll = true := by
  unfold certF; rw [hv, Bool.true_and, List.all_eq_true]; intro j hj; exact h j (List.mem_range.1 hj)
theorem certF_not {st p q : Int} {ll : List (List Int)} {j : Nat} (hj : j < ll.length) (h : allOne (rowI ll j) = false) : certF st p q ll = false := by
  unfold certF; rw [Bool.and_eq_false_iff]; right; rw [List.all_eq_false]; exact ⟨j, List.mem_range.2 hj, by simp [h]⟩
theorem oneN_zero : oneN 0 = false := rfl
theorem oneN_pos {x : Nat} (h : x ≠ 0) : oneN x = decide (andN x (x - 1) = 0) := by simp [oneN, h]

set_option maxHeartbeats 1000000 in
theorem sCertain_c (st p q : Int) (a : Option Addr) (cap : Nat) (ll : List (List Int)) (w : World) (hr : RowsAt w a ll) (hlen : ll.length ≤ 4194304) (hm : ∀ i, i < ll.length → (rowI ll i).length ≤ 4194304) :
    Calls Tryd.prog 7 #[modelV st p q a ll.length cap] w fun e w' => e = .returned (.bool (certF st p q ll)) ∧ Ext w w' := by
  have HR := Lib.hid hr
  have HM := Lib.hid hm
  clear hr hm
  cases hv : mvB st p q ll
  · have hF : certF st p q ll = false := by simp [certF, hv]
    rw [hF]
    clear hF
    go_enter Tryd.func7, Tryd.ntmps7
    go_wp2
    go_loopw [3] (fun i wr => Hid (i = .int .i64 0 ∧ BoxM wr w.heap.size st p q (.slice a ll.length cap) ∧ Ext w wr)) (fun _ _ => 0)
    case atStart => exact Lib.hid ⟨rfl, by simp [BoxM, go_sem], by (repeat (first | exact Ext.refl _ | assumption | refine Ext.alloc ?_ _ | refine Ext.drewN ?_ _ | refine Ext.drew ?_))⟩
    case round =>
      obtain ⟨rfl, hb, hx⟩ := hrel.out
      clear hrel
      have kb := hb.out
      have zb := hb.lt
      by_cases hlt : 0 < ll.length
      · go_wp2_with fail
        refine (sModelValid_c st p q a cap ll _ (HR.out.ext (by (repeat (first | exact Ext.refl _ | assumption | refine Ext.alloc ?_ _ | refine Ext.drewN ?_ _ | refine Ext.drew ?_)))) hlen HM.out).mono ?_
        rw [hv]
        rintro e w1 ⟨rfl, y⟩
        clear kb zb
        have hb1 := hb.ext y
        replace hx := hx.trans y
        have kb := hb1.out
        have zb := hb1.lt
        go_wp2_with fail
        refine (sModelValid_c st p q a cap ll _ (HR.out.ext (by (repeat (first | exact Ext.refl _ | assumption | refine Ext.alloc ?_ _ | refine Ext.drewN ?_ _ | refine Ext.drew ?_)))) hlen HM.out).mono ?_
        rw [hv]
        rintro e w2 ⟨rfl, y2⟩
        replace hx := hx.trans y2
        go_wp2
        go_ret
        exact ⟨rfl, hx⟩
      · go_wp2_with fail
        refine (sModelValid_c st p q a cap ll _ (HR.out.ext (by (repeat (first | exact Ext.refl _ | assumption | refine Ext.alloc ?_ _ | refine Ext.drewN ?_ _ | refine Ext.drew ?_)))) hlen HM.out).mono ?_
        rw [hv]
        rintro e w2 ⟨rfl, y2⟩
        replace hx := hx.trans y2
        go_wp2
        go_ret
        exact ⟨rfl, hx⟩
  · obtain ⟨s, P, Q, rfl, rfl, rfl, h1, h5, hP, hQ, hPb, hQb, h3, hrv⟩ := mvB_bounds hv
    have HV := Lib.hid hv
    have HRV := Lib.hid hrv
    have H3 := Lib.hid h3
    clear hv hrv hP hQ h3
    go_enter Tryd.func7, Tryd.ntmps7
    go_wp2
    go_loopw [3] (fun i wr => Hid (∃ k : Nat, k ≤ ll.length ∧ i = .int .i64 k ∧ (∀ j, j < k → allOne (rowI ll j) = true) ∧ BoxM wr w.heap.size s P Q (.slice a ll.length cap) ∧ Ext w wr)) (fun i _ => ll.length - (intOf i).toNat)
    case atStart => exact Lib.hid ⟨0, Nat.zero_le _, rfl, fun j hj => absurd hj (Nat.not_lt_zero _), by simp [BoxM, go_sem], by (repeat (first | exact Ext.refl _ | assumption | refine Ext.alloc ?_ _ | refine Ext.drewN ?_ _ | refine Ext.drew ?_))⟩
    case round =>
      obtain ⟨k, hk, rfl, hno, hb, hx⟩ := hrel.out
      have HN := Lib.hid hno
      clear hrel hno
      have kb := hb.out
      have zb := hb.lt
      by_cases hlt : k < ll.length
      · go_wp2_with fail
        refine (sModelValid_c s P Q a cap ll _ (HR.out.ext (by (repeat (first | exact Ext.refl _ | assumption | refine Ext.alloc ?_ _ | refine Ext.drewN ?_ _ | refine Ext.drew ?_)))) hlen HM.out).mono ?_
        rw [HV.out]
        rintro e w1 ⟨rfl, y⟩
        clear kb zb
        replace hb := hb.ext y
        replace hx := hx.trans y
        clear y
        have hvk := HRV.out k (by rw [← H3.out]; exact hlt)
        have hrl := rvB_len hvk
        have HS := Lib.hid (rvB_sets hvk).1
        clear hvk
        go_wp2
        go_loopw [4] (fun i wr => Hid (∃ j : Nat, j ≤ s ∧ i = .int .i64 j ∧ (∀ i, i < j → oneN (natAt (rowI ll k) i) = true) ∧ BoxM wr w.heap.size s P Q (.slice a ll.length cap) ∧ Ext w wr)) (fun i _ => s - (intOf i).toNat)
        case atStart => exact Lib.hid ⟨0, Nat.zero_le _, rfl, fun j hj => absurd hj (Nat.not_lt_zero _), hb, hx⟩
        case round =>
          obtain ⟨j, hj, rfl, hone, hb, hx⟩ := hrel.out
          have HO := Lib.hid hone
          clear hrel hone
          have kb := hb.out
          have zb := hb.lt
          by_cases hjt : j < s
          · obtain ⟨b1, o1, p1, q1⟩ := HR.out.ext hx
            obtain ⟨rfl, hz1⟩ := p1 (by omega)
            obtain ⟨ai, ci, hc, hi⟩ := q1 k (by omega)
            obtain ⟨b2, o2, p2, q2⟩ := hi
            obtain ⟨rfl, hz2⟩ := p2 (by omega)
            have hjl : j < (rowI ll k).length := by omega
            have hc2 := q2 j hjl
            rw [HS.out.eq j hjl] at hc2
            have hX4 := HS.out.lt j hjl
            clear p1 q1 p2 q2
            have HX : Hid (∀ x, natAt (rowI ll k) j = x → oneN x = true → oneN (natAt (rowI ll k) j) = true) := fun x hx h => by rw [hx]; exact h
            have HY : Hid (oneN (natAt (rowI ll k) j) = false → certF s P Q ll = false) := fun h => certF_not (by omega) (allOne_not hjl h)
            have HX2 := HX.out
            generalize hXe : natAt (rowI ll k) j = X at hc2 hX4 HY
            replace HX := Lib.hid (HX2 X hXe)
            clear HX2 hXe
            by_cases hX0 : X = 0
            · subst hX0
              have HF := Lib.hid (HY.out oneN_zero)
              clear HX HY
              go_wp2
              go_quiet (fail)
              go_wp2
              go_ret
              exact ⟨by rw [HF.out]; rfl, by (repeat (first | exact Ext.refl _ | assumption | refine Ext.alloc ?_ _ | refine Ext.drewN ?_ _ | refine Ext.drew ?_))⟩
            · have hXn : ((X : Int) == 0) = false := by simp [hX0]
              have HP := Lib.hid (oneN_pos hX0)
              have hX1 : (X : Int) - 1 = ((X - 1 : Nat) : Int) := by omega
              have hX2 : X - 1 < 4294967296 := by omega
              generalize X - 1 = Y at HP hX1 hX2
              by_cases ha : andN X Y = 0
              · have HT : Hid (oneN X = true) := by rw [HP.out]; simpa [Hid] using ha
                have hab : (((andN X Y : Nat) : Int) != 0) = false := by simp [ha]
                have HT2 := Lib.hid (HX.out HT.out)
                clear HX HY HP ha
                go_wp2
                go_quiet ((go_at_call 24; exact quiet_same (l1Both_c _ _ _ (by omega) (by omega))))
                go_wp2
                go_roundw
                case rel => exact Lib.hid ⟨j + 1, by omega, by go_num, upto_succ HO.out HT2.out, hb.ext (by (repeat (first | exact Ext.refl _ | assumption | refine Ext.alloc ?_ _ | refine Ext.drewN ?_ _ | refine Ext.drew ?_))), by (repeat (first | exact Ext.refl _ | assumption | refine Ext.alloc ?_ _ | refine Ext.drewN ?_ _ | refine Ext.drew ?_))⟩
                case measure => simp [intOf]; omega
              · have HT : Hid (oneN X = false) := by rw [HP.out]; simpa [Hid] using ha
                have hab : (((andN X Y : Nat) : Int) != 0) = true := by simp [ha]
                have HF := Lib.hid (HY.out HT.out)
                clear HX HY HP ha
                go_wp2
                go_quiet ((go_at_call 24; exact quiet_same (l1Both_c _ _ _ (by omega) (by omega))))
                go_wp2
                go_ret
                exact ⟨by rw [HF.out]; rfl, by (repeat (first | exact Ext.refl _ | assumption | refine Ext.alloc ?_ _ | refine Ext.drewN ?_ _ | refine Ext.drew ?_))⟩
          · obtain rfl : j = s := by omega
            have HA := Lib.hid (allOne_of (r := rowI ll k) (fun i hi => HO.out i (by omega)))
            go_wp2
            go_roundw
            case rel => exact Lib.hid ⟨k + 1, by omega, by go_num, upto_succ HN.out HA.out, hb, by (repeat (first | exact Ext.refl _ | assumption | refine Ext.alloc ?_ _ | refine Ext.drewN ?_ _ | refine Ext.drew ?_))⟩
            case measure => simp [intOf]; omega
      · obtain rfl : k = ll.length := by omega
        go_wp2_with fail
        refine (sModelValid_c s P Q a cap ll _ (HR.out.ext (by (repeat (first | exact Ext.refl _ | assumption | refine Ext.alloc ?_ _ | refine Ext.drewN ?_ _ | refine Ext.drew ?_)))) hlen HM.out).mono ?_
        rw [HV.out]
        rintro e w2 ⟨rfl, y2⟩
        replace hx := hx.trans y2
        have HF := Lib.hid (certF_of HV.out (fun j hj => HN.out j (by omega)))
        go_wp2
        go_ret
        exact ⟨by rw [HF.out]; rfl, hx⟩
set_option maxHeartbeats 1000000 in
theorem iCertain_c (st p q : Int) (a : Option Addr) (cap : Nat) (ll : List (List Int)) (w : World) (hr : RowsAt w a ll) (hlen : ll.length ≤ 4194304) (hm : ∀ i, i < ll.length → (rowI ll i).length ≤ 4194304) :
    Calls Tryd.prog 6 #[modelV st p q a ll.length cap] w fun e w' => e = .returned (.bool (certF st p q ll)) ∧ Ext w w' := by
  have HR := Lib.hid hr
  have HM := Lib.hid hm
  clear hr hm
  cases hv : mvB st p q ll
  · have hF : certF st p q ll = false := by simp [certF, hv]
    rw [hF]
    clear hF
    go_enter Tryd.func6, Tryd.ntmps6
    go_wp2_with fail
    refine (iModelValid_c st p q a cap ll _ (HR.out.ext (by (repeat (first | exact Ext.refl _ | assumption | refine Ext.alloc ?_ _ | refine Ext.drewN ?_ _ | refine Ext.drew ?_)))) hlen HM.out).mono ?_
    rw [hv]
    rintro e w1 ⟨rfl, y⟩
    have hx : Ext w w1 := Ext.trans (by (repeat (first | exact Ext.refl _ | assumption | refine Ext.alloc ?_ _ | refine Ext.drewN ?_ _ | refine Ext.drew ?_))) y
    go_wp2
    go_ret
    exact ⟨rfl, hx⟩
  · obtain ⟨s, P, Q, rfl, rfl, rfl, h1, h5, hP, hQ, hPb, hQb, h3, hrv⟩ := mvB_bounds hv
    have HV := Lib.hid hv
    have HRV := Lib.hid hrv
    have H3 := Lib.hid h3
    clear hv hrv hP hQ h3
    go_enter Tryd.func6, Tryd.ntmps6
    go_wp2_with fail
    refine (iModelValid_c s P Q a cap ll _ (HR.out.ext (by (repeat (first | exact Ext.refl _ | assumption | refine Ext.alloc ?_ _ | refine Ext.drewN ?_ _ | refine Ext.drew ?_)))) hlen HM.out).mono ?_
    rw [HV.out]
    rintro e w1 ⟨rfl, y⟩
    have hx : Ext w w1 := Ext.trans (by (repeat (first | exact Ext.refl _ | assumption | refine Ext.alloc ?_ _ | refine Ext.drewN ?_ _ | refine Ext.drew ?_))) y
    have hb : BoxM w1 w.heap.size s P Q (.slice a ll.length cap) := BoxM.ext (by simp [BoxM, go_sem]) y
    clear y
    have kb := hb.out
    have zb := hb.lt
    go_wp2
    go_loop [13] (fun i => Hid (∃ k : Nat, k ≤ ll.length ∧ i = .int .i64 k ∧ (∀ j, j < k → allOne (rowI ll j) = true))) (fun i => ll.length - (intOf i).toNat)
    case atStart => exact Lib.hid ⟨0, Nat.zero_le _, rfl, fun j hj => absurd hj (Nat.not_lt_zero _)⟩
    case round =>
      obtain ⟨k, hk, rfl, hno⟩ := hrel.out
      have HN := Lib.hid hno
      clear hrel hno
      by_cases hlt : k < ll.length
      · obtain ⟨b1, o1, p1, q1⟩ := HR.out.ext hx
        obtain ⟨rfl, hz1⟩ := p1 (by omega)
        obtain ⟨ai, ci, hc, hi⟩ := q1 k (by omega)
        have hvk := HRV.out k (by rw [← H3.out]; exact hlt)
        have hrl := rvB_len hvk
        have HS := Lib.hid (rvB_sets hvk).1
        clear hvk
        obtain ⟨b2, o2, p2, q2⟩ := hi
        obtain ⟨rfl, hz2⟩ := p2 (by omega)
        have Q2 := Lib.hid q2
        clear p1 q1 p2 q2
        go_wp2
        go_loop [19] (fun i => Hid (∃ j : Nat, j ≤ (rowI ll k).length ∧ i = .int .i64 j ∧ (∀ i, i < j → oneN (natAt (rowI ll k) i) = true))) (fun i => (rowI ll k).length - (intOf i).toNat)
        case atStart => exact Lib.hid ⟨0, Nat.zero_le _, rfl, fun j hj => absurd hj (Nat.not_lt_zero _)⟩
        case round =>
          obtain ⟨j, hj, rfl, hone⟩ := hrel.out
          have HO := Lib.hid hone
          clear hrel hone
          by_cases hjl : j < (rowI ll k).length
          · have hc2 := Q2.out j hjl
            rw [HS.out.eq j hjl] at hc2
            have hX4 := HS.out.lt j hjl
            have HX : Hid (∀ x, natAt (rowI ll k) j = x → oneN x = true → oneN (natAt (rowI ll k) j) = true) := fun x hx h => by rw [hx]; exact h
            have HY : Hid (oneN (natAt (rowI ll k) j) = false → certF s P Q ll = false) := fun h => certF_not (by omega) (allOne_not hjl h)
            have HX2 := HX.out
            generalize hXe : natAt (rowI ll k) j = X at hc2 hX4 HY
            replace HX := Lib.hid (HX2 X hXe)
            clear HX2 hXe
            by_cases hX0 : X = 0
            · subst hX0
              have HF := Lib.hid (HY.out oneN_zero)
              clear HX HY
              go_wp2
              go_ret
              exact ⟨by rw [HF.out]; rfl, by (repeat (first | exact Ext.refl _ | assumption | refine Ext.alloc ?_ _ | refine Ext.drewN ?_ _ | refine Ext.drew ?_))⟩
            · have hXn : ((X : Int) == 0) = false := by simp [hX0]
              have HP := Lib.hid (oneN_pos hX0)
              have hX1 : (X : Int) - 1 = ((X - 1 : Nat) : Int) := by omega
              have hX2 : X - 1 < 4294967296 := by omega
              generalize X - 1 = Y at HP hX1 hX2
              have e0 := i64_andN X Y hX4 hX2
              by_cases ha : andN X Y = 0
              · have HT : Hid (oneN X = true) := by rw [HP.out]; simpa [Hid] using ha
                have hab : (((andN X Y : Nat) : Int) != 0) = false := by simp [ha]
                have HT2 := Lib.hid (HX.out HT.out)
                clear HX HY HP ha
                go_wp2
                go_round
                case rel => exact Lib.hid ⟨j + 1, by omega, by go_num, upto_succ HO.out HT2.out⟩
                case measure => simp [intOf]; omega
              · have HT : Hid (oneN X = false) := by rw [HP.out]; simpa [Hid] using ha
                have hab : (((andN X Y : Nat) : Int) != 0) = true := by simp [ha]
                have HF := Lib.hid (HY.out HT.out)
                clear HX HY HP ha
                go_wp2
                go_ret
                exact ⟨by rw [HF.out]; rfl, by (repeat (first | exact Ext.refl _ | assumption | refine Ext.alloc ?_ _ | refine Ext.drewN ?_ _ | refine Ext.drew ?_))⟩
          · obtain rfl : j = (rowI ll k).length := by omega
            have HA := Lib.hid (allOne_of (r := rowI ll k) (fun i hi => HO.out i (by omega)))
            go_wp2
            go_round
            case rel => exact Lib.hid ⟨k + 1, by omega, by go_num, upto_succ HN.out HA.out⟩
            case measure => simp [intOf]; omega
      · obtain rfl : k = ll.length := by omega
        have HF := Lib.hid (certF_of HV.out (fun j hj => HN.out j (by omega)))
        go_wp2
        go_ret
        exact ⟨by rw [HF.out]; rfl, hx⟩
end Go.Proofs.YtlaamecfknkmlaaDoor
