/- Merged texts: contracts and plain lemmas (Rs). -/
import Derived.Test.YtlaamecfknkmlaaGreatGu42
/- Contracts: the states to which an expression leads from a set. -/
namespace Go.Proofs.YtlaamecfknkmlaaGreat
set_option linter.unusedVariables false
open Go.RowKit Go.Kt

/-- StrongStates. -/
def strongF (st p q : Int) (ll : List (List Int)) (x : Int) (l : List Int) : Int := if mvB st p q ll && kvB l && setB st.toNat x then ((img (rowsF st p q ll l) x.toNat : Nat) : Int) else -1
theorem rowsF_rel {sn P Q : Nat} {ll : List (List Int)} {l : List Int} (hv : mvB sn P Q ll = true) (hs : kvB l = true) : Rel sn (rowsF sn P Q ll l) := by
  have HF : rowsF sn P Q ll l = (treeOf l).rows P Q sn ll := by unfold rowsF; rw [hv, hs, Int.toNat_natCast]; rfl
  rw [HF]
  obtain ⟨s', P', Q', e1, e2, e3, b1, b2, b3, b4, b5, b6, b7, b8⟩ := mvB_bounds hv
  obtain rfl : sn = s' := by omega
  exact Kt.rows_rel P Q sn ll (by omega) (fun i hi => rvB_relK (b8 i hi)) _ (treeOf_valid hs).1
set_option maxRecDepth 100000 in
set_option maxHeartbeats 2000000 in
theorem iStrongStates_c (st p q : Int) (a : Option Addr) (cap : Nat) (ll : List (List Int)) (x : Int) (b : Option Addr) (cb : Nat) (l : List Int) (w : World) (hr : RowsAt w a ll) (hlen : ll.length ≤ 4194304) (hm : ∀ i, i < ll.length → (rowI ll i).length ≤ 4194304)
    (hb : IntsAt w b l) (hlb : l.length ≤ 1048576) :
    Calls Tryz.prog 19 #[modelV st p q a ll.length cap, .int .i64 x, .slice b l.length cb] w fun e w' => e = .returned (.int .i64 (strongF st p q ll x l)) ∧ Ext w w' := by
  have HR := Lib.hid hr
  have HM := Lib.hid hm
  have HB := Lib.hid hb
  clear hr hm hb
  cases hv : mvB st p q ll
  · have HF : Hid (strongF st p q ll x l = -1) := by unfold Hid strongF; rw [hv]; rfl
    go_enter Tryz.func19, Tryz.ntmps19
    go_wp2_with fail
    refine (iModelValid_c st p q a cap ll _ (HR.out.ext (by (repeat (first | exact Ext.refl _ | assumption | refine Ext.alloc ?_ _ | refine Ext.drewN ?_ _ | refine Ext.drew ?_)))) hlen HM.out).mono ?_
    rw [hv]
    rintro e w1 ⟨rfl, hx⟩
    have hx2 := Ext.trans (by (repeat (first | exact Ext.refl _ | assumption | refine Ext.alloc ?_ _ | refine Ext.drewN ?_ _ | refine Ext.drew ?_)) : Ext w _) hx
    clear hx
    go_wp2
    go_ret
    exact ⟨by rw [HF.out]; rfl, hx2⟩
  · cases hs : kvB l
    · have HF : Hid (strongF st p q ll x l = -1) := by unfold Hid strongF; rw [hv, hs]; rfl
      go_enter Tryz.func19, Tryz.ntmps19
      go_wp2_with fail
      refine (iModelValid_c st p q a cap ll _ (HR.out.ext (by (repeat (first | exact Ext.refl _ | assumption | refine Ext.alloc ?_ _ | refine Ext.drewN ?_ _ | refine Ext.drew ?_)))) hlen HM.out).mono ?_
      rw [hv]
      rintro e w1 ⟨rfl, hx⟩
      have hx2 := Ext.trans (by (repeat (first | exact Ext.refl _ | assumption | refine Ext.alloc ?_ _ | refine Ext.drewN ?_ _ | refine Ext.drew ?_)) : Ext w _) hx
      clear hx
      go_wp2_with fail
      refine (iKatValid_c b cb l _ (HB.out.ext (by (repeat (first | exact Ext.refl _ | assumption | refine Ext.alloc ?_ _ | refine Ext.drewN ?_ _ | refine Ext.drew ?_)))) (by omega)).mono ?_
      rw [hs]
      rintro e w' ⟨rfl, rfl⟩
      go_wp2
      go_ret
      exact ⟨by rw [HF.out]; rfl, hx2⟩
    · have HV := Lib.hid hv
      have HS := Lib.hid hs
      obtain ⟨sn, P, Q, rfl, rfl, rfl, b1, b2, b3, b4, b5, b6, b7, b8⟩ := mvB_bounds hv
      have hp32 := pow_le_32 sn b2
      have hq1 := pow_pos' sn
      have CR : Hid (∀ w', Ext w w' → Calls Tryz.prog 36 #[modelV sn P Q a ll.length cap, .slice b l.length cb] w' (RetI 3 w' (rowsF sn P Q ll l))) := fun w' hx => iRowsOf_c _ _ _ a cap ll b cb l w' (HR.out.ext hx) hlen HM.out (HB.out.ext hx) hlb
      have hrel : Rel sn (rowsF sn P Q ll l) := rowsF_rel HV.out HS.out
      have hrl := hrel.len
      have hrs := Lib.hid hrel.sets
      have hS4 : setB sn x = decide (0 ≤ x ∧ x < 2 ^ sn) := rfl
      have HFS : Hid (strongF sn P Q ll x l = if setB sn x then ((img (rowsF sn P Q ll l) x.toNat : Nat) : Int) else -1) := by unfold Hid strongF; rw [HV.out, HS.out, Int.toNat_natCast]; rfl
      have hin : inB x 0 ((2 : Int) ^ sn - 1) = setB sn x := by rw [hS4]; unfold inB; rw [Bool.eq_iff_iff, decide_eq_true_eq, decide_eq_true_eq]; omega
      have hwr : IntKind.i64.wrap ((2 : Int) ^ sn - 1) = (2 : Int) ^ sn - 1 := IntWalk.i64_in _ (by omega)
      clear hv hs b7 b8 hrel
      cases hsx : setB sn x
      · have HF : Hid (strongF sn P Q ll x l = -1) := by unfold Hid; rw [HFS.out, hsx]; rfl
        rw [hsx] at hin
        clear HFS hS4
        have HSX := Lib.hid hsx
        have HIN := Lib.hid hin
        clear hsx hin
        go_enter Tryz.func19, Tryz.ntmps19
        go_wp2_with fail
        refine (iModelValid_c _ _ _ a cap ll _ (HR.out.ext (by (repeat (first | exact Ext.refl _ | assumption | refine Ext.alloc ?_ _ | refine Ext.drewN ?_ _ | refine Ext.drew ?_)))) hlen HM.out).mono ?_
        rw [HV.out]
        rintro e w1 ⟨rfl, hx⟩
        have hx2 := Lib.hid (Ext.trans (by (repeat (first | exact Ext.refl _ | assumption | refine Ext.alloc ?_ _ | refine Ext.drewN ?_ _ | refine Ext.drew ?_)) : Ext w _) hx)
        have hb1 := (box_of w sn P Q (.slice a ll.length cap)).ext hx
        have zb := hb1.lt
        obtain ⟨k0, k1, k2, k3⟩ := hb1.out
        clear hx hb1
        go_wp2_with fail
        refine (iKatValid_c _ cb l _ (HB.out.ext hx2.out) (by omega)).mono ?_
        rw [HS.out]
        rintro e w' ⟨rfl, rfl⟩
        go_wp2_with fail
        refine (isSet_c _ x _ b2).mono ?_
        rw [HSX.out]
        rintro e w' ⟨rfl, rfl⟩
        go_wp2
        go_ret
        exact ⟨by rw [HF.out]; rfl, hx2.out⟩
      · rw [hsx] at hS4
        have hx0 : 0 ≤ x ∧ x < 2 ^ sn := by simpa using hS4.symm
        obtain ⟨X, rfl⟩ := Int.eq_ofNat_of_zero_le hx0.1
        have hX : X < 4294967296 := by omega
        have HF : Hid (strongF sn P Q ll X l = ((img (rowsF sn P Q ll l) X : Nat) : Int)) := by unfold Hid; rw [HFS.out, hsx, Int.toNat_natCast]; rfl
        rw [hsx] at hin
        have HSX := Lib.hid hsx
        have HIN := Lib.hid hin
        have hl32 : (rowsF sn P Q ll l).length ≤ 32 := by omega
        clear hsx hin HFS hS4 hrl
        generalize rowsF sn P Q ll l = R at *
        go_enter Tryz.func19, Tryz.ntmps19
        go_wp2_with fail
        refine (iModelValid_c _ _ _ a cap ll _ (HR.out.ext (by (repeat (first | exact Ext.refl _ | assumption | refine Ext.alloc ?_ _ | refine Ext.drewN ?_ _ | refine Ext.drew ?_)))) hlen HM.out).mono ?_
        rw [HV.out]
        rintro e w1 ⟨rfl, hx⟩
        have hx2 := Lib.hid (Ext.trans (by (repeat (first | exact Ext.refl _ | assumption | refine Ext.alloc ?_ _ | refine Ext.drewN ?_ _ | refine Ext.drew ?_)) : Ext w _) hx)
        have hb1 := (box_of w sn P Q (.slice a ll.length cap)).ext hx
        have zb := hb1.lt
        obtain ⟨k0, k1, k2, k3⟩ := hb1.out
        clear hx hb1
        go_wp2_with fail
        refine (iKatValid_c _ cb l _ (HB.out.ext hx2.out) (by omega)).mono ?_
        rw [HS.out]
        rintro e w' ⟨rfl, rfl⟩
        go_wp2_with fail
        refine (isSet_c _ _ _ b2).mono ?_
        rw [HSX.out]
        rintro e w' ⟨rfl, rfl⟩
        go_wp2_with fail
        refine (CR.out _ (hx2.out.trans (by (repeat (first | exact Ext.refl _ | assumption | refine Ext.alloc ?_ _ | refine Ext.drewN ?_ _ | refine Ext.drew ?_))))).mono ?_
        rintro e w2 ⟨v2, rfl, o2, y⟩
        have HX := Lib.hid (hx2.out.trans (Ext.trans (by (repeat (first | exact Ext.refl _ | assumption | refine Ext.alloc ?_ _ | refine Ext.drewN ?_ _ | refine Ext.drew ?_))) y))
        obtain ⟨a2, c2, rfl, i2⟩ := o2.shape
        have I2 := Lib.hid i2
        clear y o2 i2 k0 k1 k2 k3
        go_wp2_with fail
        refine (image_c a2 c2 R X _ (I2.out.ext (by (repeat (first | exact Ext.refl _ | assumption | refine Ext.alloc ?_ _ | refine Ext.drewN ?_ _ | refine Ext.drew ?_)))) hrs.out hl32 hX).mono ?_
        rintro e w3 ⟨rfl, rfl⟩
        go_wp2
        go_ret
        exact ⟨by rw [HF.out]; rfl, HX.out⟩
set_option maxRecDepth 100000 in
set_option maxHeartbeats 2000000 in
theorem sStrongStates_c (st p q : Int) (a : Option Addr) (cap : Nat) (ll : List (List Int)) (x : Int) (b : Option Addr) (cb : Nat) (l : List Int) (w : World) (hr : RowsAt w a ll) (hlen : ll.length ≤ 4194304) (hm : ∀ i, i < ll.length → (rowI ll i).length ≤ 4194304)
    (hb : IntsAt w b l) (hlb : l.length ≤ 1048576) (hcb : l.length ≤ cb) :
    Calls Tryz.prog 20 #[modelV st p q a ll.length cap, .int .i64 x, .slice b l.length cb] w fun e w' => e = .returned (.int .i64 (strongF st p q ll x l)) ∧ Ext w w' := by
  have HR := Lib.hid hr
  have HM := Lib.hid hm
  have HB := Lib.hid hb
  clear hr hm hb
  cases hv : mvB st p q ll
  · have HF : Hid (strongF st p q ll x l = -1) := by unfold Hid strongF; rw [hv]; rfl
    go_enter Tryz.func20, Tryz.ntmps20
    go_wp2_with fail
    refine (sModelValid_c st p q a cap ll _ (HR.out.ext (by (repeat (first | exact Ext.refl _ | assumption | refine Ext.alloc ?_ _ | refine Ext.drewN ?_ _ | refine Ext.drew ?_)))) hlen HM.out).mono ?_
    rw [hv]
    rintro e w1 ⟨rfl, hx⟩
    have hx2 := Ext.trans (by (repeat (first | exact Ext.refl _ | assumption | refine Ext.alloc ?_ _ | refine Ext.drewN ?_ _ | refine Ext.drew ?_)) : Ext w _) hx
    clear hx
    go_wp2
    go_ret
    exact ⟨by rw [HF.out]; rfl, hx2⟩
  · cases hs : kvB l
    · have HF : Hid (strongF st p q ll x l = -1) := by unfold Hid strongF; rw [hv, hs]; rfl
      go_enter Tryz.func20, Tryz.ntmps20
      go_wp2_with fail
      refine (sModelValid_c st p q a cap ll _ (HR.out.ext (by (repeat (first | exact Ext.refl _ | assumption | refine Ext.alloc ?_ _ | refine Ext.drewN ?_ _ | refine Ext.drew ?_)))) hlen HM.out).mono ?_
      rw [hv]
      rintro e w1 ⟨rfl, hx⟩
      have hx2 := Ext.trans (by (repeat (first | exact Ext.refl _ | assumption | refine Ext.alloc ?_ _ | refine Ext.drewN ?_ _ | refine Ext.drew ?_)) : Ext w _) hx
      clear hx
      go_wp2_with fail
      refine (sKatValid_c b cb l _ (HB.out.ext (by (repeat (first | exact Ext.refl _ | assumption | refine Ext.alloc ?_ _ | refine Ext.drewN ?_ _ | refine Ext.drew ?_)))) (by omega)).mono ?_
      rw [hs]
      rintro e w' ⟨rfl, rfl⟩
      go_wp2
      go_ret
      exact ⟨by rw [HF.out]; rfl, hx2⟩
    · have HV := Lib.hid hv
      have HS := Lib.hid hs
      obtain ⟨sn, P, Q, rfl, rfl, rfl, b1, b2, b3, b4, b5, b6, b7, b8⟩ := mvB_bounds hv
      have hp32 := pow_le_32 sn b2
      have hq1 := pow_pos' sn
      obtain ⟨hg, hw⟩ := treeOf_valid hs
      obtain ⟨hl1, hl40⟩ := kvB_len hs
      have hbb := HB.out
      obtain ⟨bb, off, h8, -⟩ := hbb
      obtain ⟨rfl, -⟩ := h8 (by omega)
      have CR : Hid (∀ w', Ext w w' → Calls Tryz.prog 85 #[modelV sn P Q a ll.length cap, .slice (some ⟨bb, off, none⟩) l.length cb] w' (RetI 3 w' (rowsF sn P Q ll l))) := fun w' hx => by
        have HF : rowsF sn P Q ll l = (treeOf l).rows P Q sn ll := by unfold rowsF; rw [hv, hs, Int.toNat_natCast]; rfl
        have := l7Rows_c sn P Q a cap ll b1 b2 b5 b6 b7 HV b8 (treeOf l) hg bb off cb w' (HR.out.ext hx) (by rw [hw]; exact HB.out.ext hx) (by rw [hw]; exact hcb) (by rw [hw]; exact hl40)
        rw [hw] at this; rw [HF]; exact this
      clear hg hw h8
      have hrel : Rel sn (rowsF sn P Q ll l) := rowsF_rel HV.out HS.out
      have hrl := hrel.len
      have hrs := Lib.hid hrel.sets
      have hS4 : setB sn x = decide (0 ≤ x ∧ x < 2 ^ sn) := rfl
      have HFS : Hid (strongF sn P Q ll x l = if setB sn x then ((img (rowsF sn P Q ll l) x.toNat : Nat) : Int) else -1) := by unfold Hid strongF; rw [HV.out, HS.out, Int.toNat_natCast]; rfl
      have hin : inB x 0 ((2 : Int) ^ sn - 1) = setB sn x := by rw [hS4]; unfold inB; rw [Bool.eq_iff_iff, decide_eq_true_eq, decide_eq_true_eq]; omega
      have hwr : IntKind.i64.wrap ((2 : Int) ^ sn - 1) = (2 : Int) ^ sn - 1 := IntWalk.i64_in _ (by omega)
      clear hv hs b7 b8 hrel
      cases hsx : setB sn x
      · have HF : Hid (strongF sn P Q ll x l = -1) := by unfold Hid; rw [HFS.out, hsx]; rfl
        rw [hsx] at hin
        clear HFS hS4
        have HSX := Lib.hid hsx
        have HIN := Lib.hid hin
        clear hsx hin
        go_enter Tryz.func20, Tryz.ntmps20
        go_wp2_with fail
        refine (sModelValid_c _ _ _ a cap ll _ (HR.out.ext (by (repeat (first | exact Ext.refl _ | assumption | refine Ext.alloc ?_ _ | refine Ext.drewN ?_ _ | refine Ext.drew ?_)))) hlen HM.out).mono ?_
        rw [HV.out]
        rintro e w1 ⟨rfl, hx⟩
        have hx2 := Lib.hid (Ext.trans (by (repeat (first | exact Ext.refl _ | assumption | refine Ext.alloc ?_ _ | refine Ext.drewN ?_ _ | refine Ext.drew ?_)) : Ext w _) hx)
        have hb1 := (box_of w sn P Q (.slice a ll.length cap)).ext hx
        have zb := hb1.lt
        obtain ⟨k0, k1, k2, k3⟩ := hb1.out
        clear hx hb1
        go_wp2_with fail
        refine (sKatValid_c _ cb l _ (HB.out.ext hx2.out) (by omega)).mono ?_
        rw [HS.out]
        rintro e w' ⟨rfl, rfl⟩
        go_wp2_with fail
        refine (l1In_c _ _ _ _).mono ?_
        rw [HIN.out]
        rintro e w' ⟨rfl, rfl⟩
        go_wp2
        go_ret
        exact ⟨by rw [HF.out]; rfl, hx2.out⟩
      · rw [hsx] at hS4
        have hx0 : 0 ≤ x ∧ x < 2 ^ sn := by simpa using hS4.symm
        obtain ⟨X, rfl⟩ := Int.eq_ofNat_of_zero_le hx0.1
        have hX : X < 4294967296 := by omega
        have HF : Hid (strongF sn P Q ll X l = ((img (rowsF sn P Q ll l) X : Nat) : Int)) := by unfold Hid; rw [HFS.out, hsx, Int.toNat_natCast]; rfl
        rw [hsx] at hin
        have HSX := Lib.hid hsx
        have HIN := Lib.hid hin
        have hl32 : (rowsF sn P Q ll l).length ≤ 32 := by omega
        clear hsx hin HFS hS4 hrl
        generalize rowsF sn P Q ll l = R at *
        go_enter Tryz.func20, Tryz.ntmps20
        go_wp2_with fail
        refine (sModelValid_c _ _ _ a cap ll _ (HR.out.ext (by (repeat (first | exact Ext.refl _ | assumption | refine Ext.alloc ?_ _ | refine Ext.drewN ?_ _ | refine Ext.drew ?_)))) hlen HM.out).mono ?_
        rw [HV.out]
        rintro e w1 ⟨rfl, hx⟩
        have hx2 := Lib.hid (Ext.trans (by (repeat (first | exact Ext.refl _ | assumption | refine Ext.alloc ?_ _ | refine Ext.drewN ?_ _ | refine Ext.drew ?_)) : Ext w _) hx)
        have hb1 := (box_of w sn P Q (.slice a ll.length cap)).ext hx
        have zb := hb1.lt
        obtain ⟨k0, k1, k2, k3⟩ := hb1.out
        clear hx hb1
        go_wp2_with fail
        refine (sKatValid_c _ cb l _ (HB.out.ext hx2.out) (by omega)).mono ?_
        rw [HS.out]
        rintro e w' ⟨rfl, rfl⟩
        go_wp2_with fail
        refine (l1In_c _ _ _ _).mono ?_
        rw [HIN.out]
        rintro e w' ⟨rfl, rfl⟩
        go_wp2_with fail
        refine (CR.out _ (hx2.out.trans (by (repeat (first | exact Ext.refl _ | assumption | refine Ext.alloc ?_ _ | refine Ext.drewN ?_ _ | refine Ext.drew ?_))))).mono ?_
        rintro e w2 ⟨v2, rfl, o2, y⟩
        have HX := Lib.hid (hx2.out.trans (Ext.trans (by (repeat (first | exact Ext.refl _ | assumption | refine Ext.alloc ?_ _ | refine Ext.drewN ?_ _ | refine Ext.drew ?_))) y))
        obtain ⟨a2, c2, rfl, i2⟩ := o2.shape
        have I2 := Lib.hid i2
        clear y o2 i2 k0 k1 k2 k3
        go_wp2_with fail
        refine (l7Image_c a2 c2 R X _ (I2.out.ext (by (repeat (first | exact Ext.refl _ | assumption | refine Ext.alloc ?_ _ | refine Ext.drewN ?_ _ | refine Ext.drew ?_)))) hrs.out hl32 hX).mono ?_
        rintro e w3 ⟨rfl, rfl⟩
        go_wp2
        go_ret
        exact ⟨by rw [HF.out]; rfl, HX.out⟩
end Go.Proofs.YtlaamecfknkmlaaGreat
