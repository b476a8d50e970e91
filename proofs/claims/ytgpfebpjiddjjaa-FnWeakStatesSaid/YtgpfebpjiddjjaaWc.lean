/- Contracts: the states from which an expression leads only to a set. -/
import Derived.Test.YtgpfebpjiddjjaaWs
namespace Go.Proofs.Ytgpfebpjiddjjaa
set_option linter.unusedVariables false
open Go.RowKit Go.Kt

/-- WeakStates. -/
def weakF (st p q : Int) (ll : List (List Int)) (l : List Int) (x : Int) : Int := if mvB st p q ll && kvB l && setB st.toNat x then (((treeOf l).weak p q st.toNat ll x.toNat : Nat) : Int) else -1
set_option maxRecDepth 100000 in
set_option maxHeartbeats 2000000 in
theorem iWeakStates_c (st p q : Int) (a : Option Addr) (cap : Nat) (ll : List (List Int)) (b : Option Addr) (cb : Nat) (l : List Int) (x : Int) (w : World) (hr : RowsAt w a ll) (hlen : ll.length ≤ 4194304) (hm : ∀ i, i < ll.length → (rowI ll i).length ≤ 4194304)
    (hb : IntsAt w b l) (hlb : l.length ≤ 1048576) :
    Calls Try.prog 12 #[modelV st p q a ll.length cap, .slice b l.length cb, .int .i64 x] w fun e w' => e = .returned (.int .i64 (weakF st p q ll l x)) ∧ Ext w w' := by
  have HR := Lib.hid hr
  have HM := Lib.hid hm
  have HB := Lib.hid hb
  clear hr hm hb
  cases hv : mvB st p q ll
  · have HF : Hid (weakF st p q ll l x = -1) := by unfold Hid weakF; rw [hv]; rfl
    go_enter Try.func12, Try.ntmps12
    go_wp2_with fail
    refine (iModelValid_c st p q a cap ll _ (HR.out.ext (by (repeat (first | exact Ext.refl _ | assumption | refine Ext.alloc ?_ _ | refine Ext.drewN ?_ _ | refine Ext.drew ?_)))) hlen HM.out).mono ?_
    rw [hv]
    rintro e w1 ⟨rfl, hx⟩
    have hx2 := Ext.trans (by (repeat (first | exact Ext.refl _ | assumption | refine Ext.alloc ?_ _ | refine Ext.drewN ?_ _ | refine Ext.drew ?_)) : Ext w _) hx
    clear hx
    go_wp2
    go_ret
    exact ⟨by rw [HF.out]; rfl, hx2⟩
  · cases hs : kvB l
    · have HF : Hid (weakF st p q ll l x = -1) := by unfold Hid weakF; rw [hv, hs]; rfl
      go_enter Try.func12, Try.ntmps12
      go_wp2_with fail
      refine (iModelValid_c st p q a cap ll _ (HR.out.ext (by (repeat (first | exact Ext.refl _ | assumption | refine Ext.alloc ?_ _ | refine Ext.drewN ?_ _ | refine Ext.drew ?_)))) hlen HM.out).mono ?_
      rw [hv]
      rintro e w1 ⟨rfl, hx⟩
      have hx2 := Ext.trans (by (repeat (first | exact Ext.refl _ | assumption | refine Ext.alloc ?_ _ | refine Ext.drewN ?_ _ | refine Ext.drew ?_)) : Ext w _) hx
      clear hx
      go_wp2_with fail
      refine (iKatValid_c b cb l _ (HB.out.ext (by (repeat (first | exact Ext.refl _ | assumption | refine Ext.alloc ?_ _ | refine Ext.drewN ?_ _ | refine Ext.drew ?_)))) (by omega)).mono ?_
      rw [hs]
      rintro e w' ⟨rfl, rfl⟩
      go_wp2
      go_ret
      exact ⟨by rw [HF.out]; rfl, hx2⟩
    · have HV := Lib.hid hv
      have HS := Lib.hid hs
      obtain ⟨sn, P, Q, rfl, rfl, rfl, b1, b2, b3, b4, b5, b6, b7, b8⟩ := mvB_bounds hv
      obtain ⟨hg, hw⟩ := treeOf_valid hs
      obtain ⟨hl1, hl40⟩ := kvB_len hs
      have hp32 := pow_le_32 sn b2
      have hq1 := pow_pos' sn
      have CB : Hid (∀ w', Ext w w' → Calls Try.prog 37 #[.slice b l.length cb] w' (RetT w' (treeOf l))) := fun w' hx => build_c b cb l (treeOf l) w' (HB.out.ext hx) hg hw hs
      have CR : Hid (∀ w' g X, X < 2 ^ sn → Ext w w' → TreeAt w' (fun _ => False) (treeOf l) g → Calls Try.prog 36 #[modelV sn P Q a ll.length cap, .pointer (some ⟨g, 0, none⟩), .int .i64 (X : Nat)] w' (RetN w' ((treeOf l).weak P Q sn ll X))) := fun w' g X hX hx ht =>
        weak_c sn P Q a cap ll b1 b2 b5 b6 b7 b8 _ hg g X w' hX (HR.out.ext hx) ht
      clear hg hw
      have hS4 : setB sn x = decide (0 ≤ x ∧ x < 2 ^ sn) := rfl
      have HFS : Hid (weakF sn P Q ll l x = if setB sn x then (((treeOf l).weak P Q sn ll x.toNat : Nat) : Int) else -1) := by unfold Hid weakF; rw [HV.out, HS.out, Int.toNat_natCast]; rfl
      have hin : inB x 0 ((2 : Int) ^ sn - 1) = setB sn x := by rw [hS4]; unfold inB; rw [Bool.eq_iff_iff, decide_eq_true_eq, decide_eq_true_eq]; omega
      have hwr : IntKind.i64.wrap ((2 : Int) ^ sn - 1) = (2 : Int) ^ sn - 1 := IntWalk.i64_in _ (by omega)
      clear hv hs b7 b8
      generalize treeOf l = t at *
      cases hsx : setB sn x
      · have HF : Hid (weakF sn P Q ll l x = -1) := by unfold Hid; rw [HFS.out, hsx]; rfl
        rw [hsx] at hin
        clear HFS hS4
        have HSX := Lib.hid hsx
        have HIN := Lib.hid hin
        clear hsx hin
        go_enter Try.func12, Try.ntmps12
        go_wp2_with fail
        refine (iModelValid_c _ _ _ a cap ll _ (HR.out.ext (by (repeat (first | exact Ext.refl _ | assumption | refine Ext.alloc ?_ _ | refine Ext.drewN ?_ _ | refine Ext.drew ?_)))) hlen HM.out).mono ?_
        rw [HV.out]
        rintro e w1 ⟨rfl, hx⟩
        have hx2 := Lib.hid (Ext.trans (by (repeat (first | exact Ext.refl _ | assumption | refine Ext.alloc ?_ _ | refine Ext.drewN ?_ _ | refine Ext.drew ?_)) : Ext w _) hx)
        have hb1 := (box_of w sn P Q (.slice a ll.length cap)).ext hx
        have zb := hb1.lt
        obtain ⟨k0, k1, k2, k3⟩ := hb1.out
        clear hx hb1
        go_wp2_with fail
        refine (iKatValid_c _ cb l _ (HB.out.ext hx2.out) (by omega)).mono ?_
        rw [HS.out]
        rintro e w' ⟨rfl, rfl⟩
        go_wp2_with fail
        refine (isSet_c _ x _ b2).mono ?_
        rw [HSX.out]
        rintro e w' ⟨rfl, rfl⟩
        go_wp2
        go_ret
        exact ⟨by rw [HF.out]; rfl, hx2.out⟩
      · rw [hsx] at hS4
        have hx0 : 0 ≤ x ∧ x < 2 ^ sn := by simpa using hS4.symm
        obtain ⟨X, rfl⟩ := Int.eq_ofNat_of_zero_le hx0.1
        have hXs : X < 2 ^ sn := by have := hx0.2; exact_mod_cast this
        have HF : Hid (weakF sn P Q ll l X = ((t.weak P Q sn ll X : Nat) : Int)) := by unfold Hid; rw [HFS.out, hsx, Int.toNat_natCast]; rfl
        rw [hsx] at hin
        have HSX := Lib.hid hsx
        have HIN := Lib.hid hin
        have CR2 : Hid (∀ w' g, Ext w w' → TreeAt w' (fun _ => False) t g → Calls Try.prog 36 #[modelV sn P Q a ll.length cap, .pointer (some ⟨g, 0, none⟩), .int .i64 X] w' (RetN w' (t.weak P Q sn ll X))) := fun w' g hx ht => CR.out w' g X hXs hx ht
        clear hsx hin HFS hS4 CR hx0 hXs
        generalize t.weak P Q sn ll X = N at *
        go_enter Try.func12, Try.ntmps12
        go_wp2_with fail
        refine (iModelValid_c _ _ _ a cap ll _ (HR.out.ext (by (repeat (first | exact Ext.refl _ | assumption | refine Ext.alloc ?_ _ | refine Ext.drewN ?_ _ | refine Ext.drew ?_)))) hlen HM.out).mono ?_
        rw [HV.out]
        rintro e w1 ⟨rfl, hx⟩
        have hx2 := Lib.hid (Ext.trans (by (repeat (first | exact Ext.refl _ | assumption | refine Ext.alloc ?_ _ | refine Ext.drewN ?_ _ | refine Ext.drew ?_)) : Ext w _) hx)
        have hb1 := (box_of w sn P Q (.slice a ll.length cap)).ext hx
        have HB1 := Lib.hid hb1
        have zb := hb1.lt
        obtain ⟨k0, k1, k2, k3⟩ := hb1.out
        clear hx hb1
        go_wp2_with fail
        refine (iKatValid_c _ cb l _ (HB.out.ext hx2.out) (by omega)).mono ?_
        rw [HS.out]
        rintro e w' ⟨rfl, rfl⟩
        go_wp2_with fail
        refine (isSet_c _ _ _ b2).mono ?_
        rw [HSX.out]
        rintro e w' ⟨rfl, rfl⟩
        go_wp2
        go_region_held3 (fun w' => w'.cell? ⟨w.heap.size, 0, none⟩ = some (.int .i64 sn) ∧ w'.cell? ⟨w.heap.size, 1, none⟩ = some (.int .i64 P) ∧ w'.cell? ⟨w.heap.size, 2, none⟩ = some (.int .i64 Q) ∧ w'.cell? ⟨w.heap.size, 3, none⟩ = some (.slice a ll.length cap))
          (first
            | go_keep
            | (have E := Ext.trans (Ext.drew (Ext.refl _)) yk; have hk1 := HB1.out.ext E; exact ⟨hk1.1, hk1.2.1, hk1.2.2.1, hk1.2.2.2⟩)
            | (have E := Ext.trans (Ext.trans (Ext.drew (Ext.refl _)) yk) yl; have hk1 := HB1.out.ext E; exact ⟨hk1.1, hk1.2.1, hk1.2.2.1, hk1.2.2.2⟩))
          ((first
            | (go_at_call 37; refine (CB.out _ (hx2.out.trans (by (repeat (first | exact Ext.refl _ | assumption | refine Ext.alloc ?_ _ | refine Ext.drewN ?_ _ | refine Ext.drew ?_))))).mono ?_; rintro e wk ⟨g, rfl, tk, yk⟩)
            | (go_at_call 36; refine (CR2.out _ g (Ext.trans (hx2.out.trans (by (repeat (first | exact Ext.refl _ | assumption | refine Ext.alloc ?_ _ | refine Ext.drewN ?_ _ | refine Ext.drew ?_)))) yk) tk).mono ?_; rintro e wl ⟨rfl, yl⟩)))
        have HX := Lib.hid (Ext.trans (Ext.trans (hx2.out.trans (by (repeat (first | exact Ext.refl _ | assumption | refine Ext.alloc ?_ _ | refine Ext.drewN ?_ _ | refine Ext.drew ?_)))) yk) yl)
        clear yk yl tk
        go_wp2
        go_ret
        exact ⟨by rw [HF.out]; rfl, HX.out⟩
set_option maxRecDepth 100000 in
set_option maxHeartbeats 2000000 in
theorem sWeakStates_c (st p q : Int) (a : Option Addr) (cap : Nat) (ll : List (List Int)) (b : Option Addr) (cb : Nat) (l : List Int) (x : Int) (w : World) (hr : RowsAt w a ll) (hlen : ll.length ≤ 4194304) (hm : ∀ i, i < ll.length → (rowI ll i).length ≤ 4194304)
    (hb : IntsAt w b l) (hlb : l.length ≤ 1048576) (hcb : l.length ≤ cb) :
    Calls Try.prog 9 #[modelV st p q a ll.length cap, .slice b l.length cb, .int .i64 x] w fun e w' => e = .returned (.int .i64 (weakF st p q ll l x)) ∧ Ext w w' := by
  have HR := Lib.hid hr
  have HM := Lib.hid hm
  have HB := Lib.hid hb
  clear hr hm hb
  cases hv : mvB st p q ll
  · have HF : Hid (weakF st p q ll l x = -1) := by unfold Hid weakF; rw [hv]; rfl
    go_enter Try.func9, Try.ntmps9
    go_wp2_with fail
    refine (sModelValid_c st p q a cap ll _ (HR.out.ext (by (repeat (first | exact Ext.refl _ | assumption | refine Ext.alloc ?_ _ | refine Ext.drewN ?_ _ | refine Ext.drew ?_)))) hlen HM.out).mono ?_
    rw [hv]
    rintro e w1 ⟨rfl, hx⟩
    have hx2 := Ext.trans (by (repeat (first | exact Ext.refl _ | assumption | refine Ext.alloc ?_ _ | refine Ext.drewN ?_ _ | refine Ext.drew ?_)) : Ext w _) hx
    clear hx
    go_wp2
    go_ret
    exact ⟨by rw [HF.out]; rfl, hx2⟩
  · cases hs : kvB l
    · have HF : Hid (weakF st p q ll l x = -1) := by unfold Hid weakF; rw [hv, hs]; rfl
      go_enter Try.func9, Try.ntmps9
      go_wp2_with fail
      refine (sModelValid_c st p q a cap ll _ (HR.out.ext (by (repeat (first | exact Ext.refl _ | assumption | refine Ext.alloc ?_ _ | refine Ext.drewN ?_ _ | refine Ext.drew ?_)))) hlen HM.out).mono ?_
      rw [hv]
      rintro e w1 ⟨rfl, hx⟩
      have hx2 := Ext.trans (by (repeat (first | exact Ext.refl _ | assumption | refine Ext.alloc ?_ _ | refine Ext.drewN ?_ _ | refine Ext.drew ?_)) : Ext w _) hx
      clear hx
      go_wp2_with fail
      refine (sKatValid_c b cb l _ (HB.out.ext (by (repeat (first | exact Ext.refl _ | assumption | refine Ext.alloc ?_ _ | refine Ext.drewN ?_ _ | refine Ext.drew ?_)))) (by omega)).mono ?_
      rw [hs]
      rintro e w' ⟨rfl, rfl⟩
      go_wp2
      go_ret
      exact ⟨by rw [HF.out]; rfl, hx2⟩
    · have HV := Lib.hid hv
      have HS := Lib.hid hs
      obtain ⟨sn, P, Q, rfl, rfl, rfl, b1, b2, b3, b4, b5, b6, b7, b8⟩ := mvB_bounds hv
      obtain ⟨hg, hw⟩ := treeOf_valid hs
      obtain ⟨hl1, hl40⟩ := kvB_len hs
      have hp32 := pow_le_32 sn b2
      have hq1 := pow_pos' sn
      have hbb := HB.out
      obtain ⟨bb, off, h8, -⟩ := hbb
      obtain ⟨rfl, -⟩ := h8 (by omega)
      have CR : Hid (∀ w' X, X < 2 ^ sn → Ext w w' → Calls Try.prog 31 #[modelV sn P Q a ll.length cap, .slice (some ⟨bb, off, none⟩) l.length cb, .int .i64 (X : Nat)] w' (RetN w' ((treeOf l).weak P Q sn ll X))) := fun w' X hX hx => by
        have := l7Weak_c sn P Q a cap ll b1 b2 b5 b6 b7 HV b8 (treeOf l) hg bb off cb X w' hX (HR.out.ext hx) (by rw [hw]; exact HB.out.ext hx) (by rw [hw]; exact hcb) (by rw [hw]; exact hl40)
        rw [hw] at this; exact this
      clear hg hw h8
      have hS4 : setB sn x = decide (0 ≤ x ∧ x < 2 ^ sn) := rfl
      have HFS : Hid (weakF sn P Q ll l x = if setB sn x then (((treeOf l).weak P Q sn ll x.toNat : Nat) : Int) else -1) := by unfold Hid weakF; rw [HV.out, HS.out, Int.toNat_natCast]; rfl
      have hin : inB x 0 ((2 : Int) ^ sn - 1) = setB sn x := by rw [hS4]; unfold inB; rw [Bool.eq_iff_iff, decide_eq_true_eq, decide_eq_true_eq]; omega
      have hwr : IntKind.i64.wrap ((2 : Int) ^ sn - 1) = (2 : Int) ^ sn - 1 := IntWalk.i64_in _ (by omega)
      clear hv hs b7 b8
      generalize treeOf l = t at *
      cases hsx : setB sn x
      · have HF : Hid (weakF sn P Q ll l x = -1) := by unfold Hid; rw [HFS.out, hsx]; rfl
        rw [hsx] at hin
        clear HFS hS4
        have HSX := Lib.hid hsx
        have HIN := Lib.hid hin
        clear hsx hin
        go_enter Try.func9, Try.ntmps9
        go_wp2_with fail
        refine (sModelValid_c _ _ _ a cap ll _ (HR.out.ext (by (repeat (first | exact Ext.refl _ | assumption | refine Ext.alloc ?_ _ | refine Ext.drewN ?_ _ | refine Ext.drew ?_)))) hlen HM.out).mono ?_
        rw [HV.out]
        rintro e w1 ⟨rfl, hx⟩
        have hx2 := Lib.hid (Ext.trans (by (repeat (first | exact Ext.refl _ | assumption | refine Ext.alloc ?_ _ | refine Ext.drewN ?_ _ | refine Ext.drew ?_)) : Ext w _) hx)
        have hb1 := (box_of w sn P Q (.slice a ll.length cap)).ext hx
        have zb := hb1.lt
        obtain ⟨k0, k1, k2, k3⟩ := hb1.out
        clear hx hb1
        go_wp2_with fail
        refine (sKatValid_c _ cb l _ (HB.out.ext hx2.out) (by omega)).mono ?_
        rw [HS.out]
        rintro e w' ⟨rfl, rfl⟩
        go_wp2_with fail
        refine (l1In_c _ _ _ _).mono ?_
        rw [HIN.out]
        rintro e w' ⟨rfl, rfl⟩
        go_wp2
        go_ret
        exact ⟨by rw [HF.out]; rfl, hx2.out⟩
      · rw [hsx] at hS4
        have hx0 : 0 ≤ x ∧ x < 2 ^ sn := by simpa using hS4.symm
        obtain ⟨X, rfl⟩ := Int.eq_ofNat_of_zero_le hx0.1
        have hXs : X < 2 ^ sn := by have := hx0.2; exact_mod_cast this
        have HF : Hid (weakF sn P Q ll l X = ((t.weak P Q sn ll X : Nat) : Int)) := by unfold Hid; rw [HFS.out, hsx, Int.toNat_natCast]; rfl
        rw [hsx] at hin
        have HSX := Lib.hid hsx
        have HIN := Lib.hid hin
        have CR2 : Hid (∀ w', Ext w w' → Calls Try.prog 31 #[modelV sn P Q a ll.length cap, .slice (some ⟨bb, off, none⟩) l.length cb, .int .i64 X] w' (RetN w' (t.weak P Q sn ll X))) := fun w' hx => CR.out w' X hXs hx
        clear hsx hin HFS hS4 CR hx0 hXs
        generalize t.weak P Q sn ll X = N at *
        go_enter Try.func9, Try.ntmps9
        go_wp2_with fail
        refine (sModelValid_c _ _ _ a cap ll _ (HR.out.ext (by (repeat (first | exact Ext.refl _ | assumption | refine Ext.alloc ?_ _ | refine Ext.drewN ?_ _ | refine Ext.drew ?_)))) hlen HM.out).mono ?_
        rw [HV.out]
        rintro e w1 ⟨rfl, hx⟩
        have hx2 := Lib.hid (Ext.trans (by (repeat (first | exact Ext.refl _ | assumption | refine Ext.alloc ?_ _ | refine Ext.drewN ?_ _ | refine Ext.drew ?_)) : Ext w _) hx)
        have hb1 := (box_of w sn P Q (.slice a ll.length cap)).ext hx
        have HB1 := Lib.hid hb1
        have zb := hb1.lt
        obtain ⟨k0, k1, k2, k3⟩ := hb1.out
        clear hx hb1
        go_wp2_with fail
        refine (sKatValid_c _ cb l _ (HB.out.ext hx2.out) (by omega)).mono ?_
        rw [HS.out]
        rintro e w' ⟨rfl, rfl⟩
        go_wp2_with fail
        refine (l1In_c _ _ _ _).mono ?_
        rw [HIN.out]
        rintro e w' ⟨rfl, rfl⟩
        go_wp2_with fail
        refine (CR2.out _ (hx2.out.trans (by (repeat (first | exact Ext.refl _ | assumption | refine Ext.alloc ?_ _ | refine Ext.drewN ?_ _ | refine Ext.drew ?_))))).mono ?_
        rintro e w2 ⟨rfl, y⟩
        have HX := Lib.hid (hx2.out.trans (Ext.trans (by (repeat (first | exact Ext.refl _ | assumption | refine Ext.alloc ?_ _ | refine Ext.drewN ?_ _ | refine Ext.drew ?_))) y))
        clear y
        go_wp2
        go_ret
        exact ⟨by rw [HF.out]; rfl, HX.out⟩
end Go.Proofs.Ytgpfebpjiddjjaa
