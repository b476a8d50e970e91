/- For all arguments: the program's ModelBack answers what the reference's does, leaves its arguments alone, and shares no memory (FnExactModelBack). -/
import Derived.Test.YtfaeiihgjoognaaN
namespace Go.Proofs.Ytfaeiihgjoognaa
set_option linter.unusedVariables false
open Go.RowKit Go.Kt

set_option maxRecDepth 100000 in
set_option maxHeartbeats 400000 in
theorem fnExactModelBack_c (s0 p0 q0 : Int) (a0 : Option Addr) (c0 : Nat) (l0 : List (List Int)) (w : World) (hl0 : RowsAt w a0 l0) (hlen0 : l0.length ≤ 9223372036854775807) (hrow0 : ∀ i, i < l0.length → (rowI l0 i).length ≤ 9223372036854775807) :
    Calls Try.prog 21 #[modelV s0 p0 q0 a0 l0.length c0] w fun e w' => e = .returned (.bool true) ∧ Ext w w' := by
  have i0 := hl0
  have hFl := mbL_len s0 p0 q0 l0
  have hFt := mbL_tot s0 p0 q0 l0
  have HFW : Hid (∀ i, i < (mbL s0 p0 q0 l0).length → (rowI (mbL s0 p0 q0 l0) i).length ≤ 4611686018427387904) := fun i hi => by have := totTo_row (mbL s0 p0 q0 l0) i (mbL s0 p0 q0 l0).length hi; omega
  have hx := Ext.refl w
  go_enter Try.func21, Try.ntmps21
  go_wp2_with fail
  refine (szModel_c s0 p0 q0 a0 c0 l0 1048576 _ (i0.ext (by (repeat (first | exact Ext.refl _ | assumption | refine Ext.alloc ?_ _ | refine Ext.drewN ?_ _ | refine Ext.drew ?_ | refine Ext.setCell ?_ (by simp; try omega) _)))) hlen0 hrow0 (by omega) (by omega)).mono ?_
  rintro e w1 ⟨r0, rfl, hfit0, y⟩
  have bp0 : BoxM w1 (w.heap.size) s0 p0 q0 (.slice a0 l0.length c0) := BoxM.ext (by simp [BoxM, go_sem]) y
  have y2 : Ext w w1 := Ext.trans (by (repeat (first | exact Ext.refl _ | assumption | refine Ext.alloc ?_ _ | refine Ext.drewN ?_ _ | refine Ext.drew ?_ | refine Ext.setCell ?_ (by simp; try omega) _))) y
  replace i0 := i0.ext y2
  replace hx := hx.trans y2
  clear y2 y
  by_cases hr0 : r0 < 0
  · go_wp2
    go_ret
    exact ⟨rfl, hx⟩
  · have hrle0 := hfit0.1
    have hft0 := hfit0.2 (by omega)
    have hb0 : l0.length ≤ 4194304 := by omega
    have htot0 : totTo l0 l0.length ≤ 1048576 := by omega
    have hm0 : ∀ i, i < l0.length → (rowI l0 i).length ≤ 4194304 := fun i hi => by have := totTo_row l0 i l0.length hi; omega
    have HM0 := Lib.hid hm0
    have HW0 : Hid (∀ i, i < l0.length → (rowI l0 i).length ≤ 4611686018427387904) := fun i hi => by have := hm0 i hi; omega
    clear hm0 hfit0 hrow0
    have kbp0 := bp0.out
    have zbp0 := bp0.lt
    have hx0 := hx.size
    go_wp2_with fail
    refine (toModel_c s0 p0 q0 a0 c0 l0 _ (i0.ext (by (repeat (first | exact Ext.refl _ | assumption | refine Ext.alloc ?_ _ | refine Ext.drewN ?_ _ | refine Ext.drew ?_ | refine Ext.setCell ?_ (by simp; try omega) _)))) hb0 HM0.out).mono ?_
    rintro e w2 ⟨vt0, rfl, ot0, y⟩
    clear kbp0 zbp0
    clear hx0
    obtain ⟨at0, ct0, rfl⟩ := ot0.shape
    replace ot0 := OwnR.mono (B' := w1.heap.size + 0) ot0 (by simp) (Nat.le_refl _) (OwnRk.top ot0)
    have hBt0 := hx.size
    have hTt0 := ot0.top'
    have y2 : Ext w1 w2 := Ext.trans (by (repeat (first | exact Ext.refl _ | assumption | refine Ext.alloc ?_ _ | refine Ext.drewN ?_ _ | refine Ext.drew ?_ | refine Ext.setCell ?_ (by simp; try omega) _))) y
    replace i0 := i0.ext y2
    replace bp0 := bp0.ext y2
    replace hx := hx.trans y2
    clear y2 y
    have kbp0 := bp0.out
    have zbp0 := bp0.lt
    have hx0 := hx.size
    go_wp2_with fail
    refine (sModelBack_c s0 p0 q0 at0 ct0 l0 _ (ot0.rows.ext (by (repeat (first | exact Ext.refl _ | assumption | refine Ext.alloc ?_ _ | refine Ext.drewN ?_ _ | refine Ext.drew ?_ | refine Ext.setCell ?_ (by simp; try omega) _)))) hb0 HM0.out).mono ?_
    rintro e w3 ⟨vW, rfl, oW, y⟩
    clear kbp0 zbp0
    clear hx0
    obtain ⟨aW, cW, rfl⟩ := oW.shape
    replace oW := OwnR.mono (B' := w2.heap.size + 0) oW (by simp) (Nat.le_refl _) (OwnRk.top oW)
    have hBW := hx.size
    have hTW := oW.top'
    have y2 : Ext w2 w3 := Ext.trans (by (repeat (first | exact Ext.refl _ | assumption | refine Ext.alloc ?_ _ | refine Ext.drewN ?_ _ | refine Ext.drew ?_ | refine Ext.setCell ?_ (by simp; try omega) _))) y
    replace ot0 := ot0.ext y2
    replace i0 := i0.ext y2
    replace bp0 := bp0.ext y2
    replace hx := hx.trans y2
    clear y2 y
    clear ot0
    have kbp0 := bp0.out
    have zbp0 := bp0.lt
    have hx0 := hx.size
    go_wp2_with fail
    refine (toModel_c s0 p0 q0 a0 c0 l0 _ (i0.ext (by (repeat (first | exact Ext.refl _ | assumption | refine Ext.alloc ?_ _ | refine Ext.drewN ?_ _ | refine Ext.drew ?_ | refine Ext.setCell ?_ (by simp; try omega) _)))) hb0 HM0.out).mono ?_
    rintro e w4 ⟨vx0, rfl, ox0, y⟩
    clear kbp0 zbp0
    clear hx0
    obtain ⟨ax0, cx0, rfl⟩ := ox0.shape
    replace ox0 := OwnR.mono (B' := w3.heap.size + 1) ox0 (by simp) (Nat.le_refl _) (OwnRk.top ox0)
    have hBx0 := hx.size
    have hTx0 := ox0.top'
    have bW : BoxM w4 (w3.heap.size) (mbI s0 p0 q0 l0 s0) (mbI s0 p0 q0 l0 p0) (mbI s0 p0 q0 l0 q0) (.slice aW (mbL s0 p0 q0 l0).length cW) := BoxM.ext (by simp [BoxM, go_sem]) y
    have y2 : Ext w3 w4 := Ext.trans (by (repeat (first | exact Ext.refl _ | assumption | refine Ext.alloc ?_ _ | refine Ext.drewN ?_ _ | refine Ext.drew ?_ | refine Ext.setCell ?_ (by simp; try omega) _))) y
    replace oW := oW.ext y2
    replace i0 := i0.ext y2
    replace bp0 := bp0.ext y2
    replace hx := hx.trans y2
    clear y2 y
    have kbp0 := bp0.out
    have zbp0 := bp0.lt
    have kbW := bW.out
    have zbW := bW.lt
    have hx0 := hx.size
    go_wp2_with fail
    refine (iModelBack_c s0 p0 q0 ax0 cx0 l0 _ (ox0.rows.ext (by (repeat (first | exact Ext.refl _ | assumption | refine Ext.alloc ?_ _ | refine Ext.drewN ?_ _ | refine Ext.drew ?_ | refine Ext.setCell ?_ (by simp; try omega) _)))) hb0 HM0.out).mono ?_
    rintro e w5 ⟨vG, rfl, oG, y⟩
    clear kbp0 zbp0
    clear kbW zbW
    clear hx0
    obtain ⟨aG, cG, rfl⟩ := oG.shape
    replace oG := OwnR.mono (B' := w4.heap.size + 1) oG (by simp) (Nat.le_refl _) (OwnRk.top oG)
    have hBG := hx.size
    have hTG := oG.top'
    have bx0 : BoxM w5 (w4.heap.size) s0 p0 q0 (.slice ax0 l0.length cx0) := BoxM.ext (by simp [BoxM, go_sem]) y
    have y2 : Ext w4 w5 := Ext.trans (by (repeat (first | exact Ext.refl _ | assumption | refine Ext.alloc ?_ _ | refine Ext.drewN ?_ _ | refine Ext.drew ?_ | refine Ext.setCell ?_ (by simp; try omega) _))) y
    replace oW := oW.ext y2
    replace ox0 := ox0.ext y2
    replace i0 := i0.ext y2
    replace bp0 := bp0.ext y2
    replace bW := bW.ext y2
    replace hx := hx.trans y2
    clear y2 y
    have kbp0 := bp0.out
    have zbp0 := bp0.lt
    have kbW := bW.out
    have zbW := bW.lt
    have kbx0 := bx0.out
    have zbx0 := bx0.lt
    have hx0 := hx.size
    go_wp2_with fail
    refine (eqModel_c (mbI s0 p0 q0 l0 s0) (mbI s0 p0 q0 l0 p0) (mbI s0 p0 q0 l0 q0) _ _ _ _ (mbL s0 p0 q0 l0) _ (oG.rows.ext (by (repeat (first | exact Ext.refl _ | assumption | refine Ext.alloc ?_ _ | refine Ext.drewN ?_ _ | refine Ext.drew ?_ | refine Ext.setCell ?_ (by simp; try omega) _)))) (oW.rows.ext (by (repeat (first | exact Ext.refl _ | assumption | refine Ext.alloc ?_ _ | refine Ext.drewN ?_ _ | refine Ext.drew ?_ | refine Ext.setCell ?_ (by simp; try omega) _)))) (by omega) HFW.out).mono ?_
    rintro e w6 ⟨rfl, y⟩
    clear kbp0 zbp0
    clear kbW zbW
    clear kbx0 zbx0
    clear hx0
    have bG : BoxM w6 (w5.heap.size) (mbI s0 p0 q0 l0 s0) (mbI s0 p0 q0 l0 p0) (mbI s0 p0 q0 l0 q0) (.slice aG (mbL s0 p0 q0 l0).length cG) := BoxM.ext (by simp [BoxM, go_sem]) y
    have y2 : Ext w5 w6 := Ext.trans (by (repeat (first | exact Ext.refl _ | assumption | refine Ext.alloc ?_ _ | refine Ext.drewN ?_ _ | refine Ext.drew ?_ | refine Ext.setCell ?_ (by simp; try omega) _))) y
    replace oW := oW.ext y2
    replace ox0 := ox0.ext y2
    replace oG := oG.ext y2
    replace i0 := i0.ext y2
    replace bp0 := bp0.ext y2
    replace bW := bW.ext y2
    replace bx0 := bx0.ext y2
    replace hx := hx.trans y2
    clear y2 y
    have kbp0 := bp0.out
    have zbp0 := bp0.lt
    have kbW := bW.out
    have zbW := bW.lt
    have kbx0 := bx0.out
    have zbx0 := bx0.lt
    have kbG := bG.out
    have zbG := bG.lt
    have hx0 := hx.size
    go_wp2_with fail
    have bpk := bp0
    have bxk := bx0
    have hik := i0
    have hok := ox0.rows
    have hek : Ext w6 w6 := Ext.refl _
    have HEK := Lib.hid hek
    clear hek
    have HBK := Lib.hid bxk; have HPK := Lib.hid bpk; clear bxk bpk
    go_region_held3 (fun w' => w'.cell? ⟨w4.heap.size, 0, none⟩ = some (.int .i64 s0) ∧ w'.cell? ⟨w4.heap.size, 1, none⟩ = some (.int .i64 p0) ∧ w'.cell? ⟨w4.heap.size, 2, none⟩ = some (.int .i64 q0) ∧ w'.cell? ⟨w4.heap.size, 3, none⟩ = some (.slice ax0 l0.length cx0) ∧ w'.cell? ⟨w.heap.size, 0, none⟩ = some (.int .i64 s0) ∧ w'.cell? ⟨w.heap.size, 1, none⟩ = some (.int .i64 p0) ∧ w'.cell? ⟨w.heap.size, 2, none⟩ = some (.int .i64 q0) ∧ w'.cell? ⟨w.heap.size, 3, none⟩ = some (.slice a0 l0.length c0))
      (first
        | go_keep
        | (have hk1 := HBK.out.ext (Ext.trans (Ext.drew (Ext.refl _)) yk); have hk2 := HPK.out.ext (Ext.trans (Ext.drew (Ext.refl _)) yk); exact ⟨hk1.1, hk1.2.1, hk1.2.2.1, hk1.2.2.2, hk2.1, hk2.2.1, hk2.2.2.1, hk2.2.2.2⟩)
        | (have hk1 := HBK.out.ext (Ext.trans (Ext.trans (Ext.drew (Ext.refl _)) yk) yl); have hk2 := HPK.out.ext (Ext.trans (Ext.trans (Ext.drew (Ext.refl _)) yk) yl); exact ⟨hk1.1, hk1.2.1, hk1.2.2.1, hk1.2.2.2, hk2.1, hk2.2.1, hk2.2.2.1, hk2.2.2.2⟩))
      ((first
        | (go_at_call 44; refine (toModel_c s0 p0 q0 a0 c0 l0 _ (hik.ext (by (repeat (first | exact Ext.refl _ | assumption | refine Ext.alloc ?_ _ | refine Ext.drewN ?_ _ | refine Ext.drew ?_ | refine Ext.setCell ?_ (by simp; try omega) _)))) hb0 HM0.out).mono ?_; rintro e wk ⟨vk, rfl, ok, yk⟩; obtain ⟨ak, ck, rfl⟩ := ok.shape)
        | (go_at_call 45; refine (eqModel_c s0 p0 q0 _ _ _ _ l0 _ (hok.ext (Ext.trans (by (repeat (first | exact Ext.refl _ | assumption | refine Ext.alloc ?_ _ | refine Ext.drewN ?_ _ | refine Ext.drew ?_ | refine Ext.setCell ?_ (by simp; try omega) _))) yk)) (ok.rows.ext (by (repeat (first | exact Ext.refl _ | assumption | refine Ext.alloc ?_ _ | refine Ext.drewN ?_ _ | refine Ext.drew ?_ | refine Ext.setCell ?_ (by simp; try omega) _)))) (by omega) HW0.out).mono ?_; rintro e wl ⟨rfl, yl⟩)))
    have y3 : Ext w6 wl := Ext.trans (Ext.trans (by (repeat (first | exact Ext.refl _ | assumption | refine Ext.alloc ?_ _ | refine Ext.drewN ?_ _ | refine Ext.drew ?_ | refine Ext.setCell ?_ (by simp; try omega) _)) : Ext w6 _) yk) (Ext.trans (by (repeat (first | exact Ext.refl _ | assumption | refine Ext.alloc ?_ _ | refine Ext.drewN ?_ _ | refine Ext.drew ?_ | refine Ext.setCell ?_ (by simp; try omega) _))) yl)
    replace hx := hx.trans y3
    clear kbp0 zbp0
    clear kbW zbW
    clear kbx0 zbx0
    clear kbG zbG
    clear hx0
    replace oW := oW.ext y3
    replace ox0 := ox0.ext y3
    replace oG := oG.ext y3
    replace i0 := i0.ext y3
    replace bp0 := bp0.ext y3
    replace bW := bW.ext y3
    replace bx0 := bx0.ext y3
    replace bG := bG.ext y3
    clear y3
    clear yk yl ok hik hok HBK HPK HEK
    have kbp0 := bp0.out
    have zbp0 := bp0.lt
    have kbW := bW.out
    have zbW := bW.lt
    have kbx0 := bx0.out
    have zbx0 := bx0.lt
    have kbG := bG.out
    have zbG := bG.lt
    have hx0 := hx.size
    go_wp2_with fail
    refine (markModel_c s0 p0 q0 _ _ _ _ _ l0 1 _ (ox0.ext (by (repeat (first | exact Ext.refl _ | assumption | refine Ext.alloc ?_ _ | refine Ext.drewN ?_ _ | refine Ext.drew ?_ | refine Ext.setCell ?_ (by simp; try omega) _)))) (by omega) (by omega) (by omega)).mono ?_
    rintro e w7 ⟨rfl, om, htch⟩
    clear kbp0 zbp0
    clear kbW zbW
    clear kbx0 zbx0
    clear kbG zbG
    clear hx0
    replace oW := (oW.ext (by (repeat (first | exact Ext.refl _ | assumption | refine Ext.alloc ?_ _ | refine Ext.drewN ?_ _ | refine Ext.drew ?_ | refine Ext.setCell ?_ (by simp; try omega) _)))).untouched htch (by omega)
    replace oG := (oG.ext (by (repeat (first | exact Ext.refl _ | assumption | refine Ext.alloc ?_ _ | refine Ext.drewN ?_ _ | refine Ext.drew ?_ | refine Ext.setCell ?_ (by simp; try omega) _)))).untouched htch (by omega)
    replace bp0 := (bp0.ext (by (repeat (first | exact Ext.refl _ | assumption | refine Ext.alloc ?_ _ | refine Ext.drewN ?_ _ | refine Ext.drew ?_ | refine Ext.setCell ?_ (by simp; try omega) _)))).untouched htch (by have := bp0.lt; omega)
    replace bW := (bW.ext (by (repeat (first | exact Ext.refl _ | assumption | refine Ext.alloc ?_ _ | refine Ext.drewN ?_ _ | refine Ext.drew ?_ | refine Ext.setCell ?_ (by simp; try omega) _)))).untouched htch (by have := bW.lt; omega)
    replace bx0 := (bx0.ext (by (repeat (first | exact Ext.refl _ | assumption | refine Ext.alloc ?_ _ | refine Ext.drewN ?_ _ | refine Ext.drew ?_ | refine Ext.setCell ?_ (by simp; try omega) _)))).untouched htch (by have := bx0.lt; omega)
    replace bG := (bG.ext (by (repeat (first | exact Ext.refl _ | assumption | refine Ext.alloc ?_ _ | refine Ext.drewN ?_ _ | refine Ext.drew ?_ | refine Ext.setCell ?_ (by simp; try omega) _)))).untouched htch (by have := bG.lt; omega)
    have y := htch.ext (hx.trans (by (repeat (first | exact Ext.refl _ | assumption | refine Ext.alloc ?_ _ | refine Ext.drewN ?_ _ | refine Ext.drew ?_ | refine Ext.setCell ?_ (by simp; try omega) _)))) (by omega)
    clear hx; have hx := y; clear y
    replace i0 := hl0.ext hx
    replace ox0 := om
    clear om htch
    have kbp0 := bp0.out
    have zbp0 := bp0.lt
    have kbW := bW.out
    have zbW := bW.lt
    have kbx0 := bx0.out
    have zbx0 := bx0.lt
    have kbG := bG.out
    have zbG := bG.lt
    have hx0 := hx.size
    go_wp2_with fail
    refine (eqModel_c (mbI s0 p0 q0 l0 s0) (mbI s0 p0 q0 l0 p0) (mbI s0 p0 q0 l0 q0) _ _ _ _ (mbL s0 p0 q0 l0) _ (oG.rows.ext (by (repeat (first | exact Ext.refl _ | assumption | refine Ext.alloc ?_ _ | refine Ext.drewN ?_ _ | refine Ext.drew ?_ | refine Ext.setCell ?_ (by simp; try omega) _)))) (oW.rows.ext (by (repeat (first | exact Ext.refl _ | assumption | refine Ext.alloc ?_ _ | refine Ext.drewN ?_ _ | refine Ext.drew ?_ | refine Ext.setCell ?_ (by simp; try omega) _)))) (by omega) HFW.out).mono ?_
    rintro e w8 ⟨rfl, y⟩
    clear kbp0 zbp0
    clear kbW zbW
    clear kbx0 zbx0
    clear kbG zbG
    clear hx0
    have y2 : Ext w7 w8 := Ext.trans (by (repeat (first | exact Ext.refl _ | assumption | refine Ext.alloc ?_ _ | refine Ext.drewN ?_ _ | refine Ext.drew ?_ | refine Ext.setCell ?_ (by simp; try omega) _))) y
    replace oW := oW.ext y2
    replace ox0 := ox0.ext y2
    replace oG := oG.ext y2
    replace i0 := i0.ext y2
    replace bp0 := bp0.ext y2
    replace bW := bW.ext y2
    replace bx0 := bx0.ext y2
    replace bG := bG.ext y2
    replace hx := hx.trans y2
    clear y2 y
    have kbp0 := bp0.out
    have zbp0 := bp0.lt
    have kbW := bW.out
    have zbW := bW.lt
    have kbx0 := bx0.out
    have zbx0 := bx0.lt
    have kbG := bG.out
    have zbG := bG.lt
    have hx0 := hx.size
    go_wp2_with fail
    refine (markModel_c (mbI s0 p0 q0 l0 s0) (mbI s0 p0 q0 l0 p0) (mbI s0 p0 q0 l0 q0) _ _ _ _ _ (mbL s0 p0 q0 l0) 1 _ (oG.ext (by (repeat (first | exact Ext.refl _ | assumption | refine Ext.alloc ?_ _ | refine Ext.drewN ?_ _ | refine Ext.drew ?_ | refine Ext.setCell ?_ (by simp; try omega) _)))) (by omega) (by omega) (by omega)).mono ?_
    rintro e w9 ⟨rfl, om, htch⟩
    clear kbp0 zbp0
    clear kbW zbW
    clear kbx0 zbx0
    clear kbG zbG
    clear hx0
    replace oW := (oW.ext (by (repeat (first | exact Ext.refl _ | assumption | refine Ext.alloc ?_ _ | refine Ext.drewN ?_ _ | refine Ext.drew ?_ | refine Ext.setCell ?_ (by simp; try omega) _)))).untouched htch (by omega)
    replace ox0 := (ox0.ext (by (repeat (first | exact Ext.refl _ | assumption | refine Ext.alloc ?_ _ | refine Ext.drewN ?_ _ | refine Ext.drew ?_ | refine Ext.setCell ?_ (by simp; try omega) _)))).untouched htch (by omega)
    replace bp0 := (bp0.ext (by (repeat (first | exact Ext.refl _ | assumption | refine Ext.alloc ?_ _ | refine Ext.drewN ?_ _ | refine Ext.drew ?_ | refine Ext.setCell ?_ (by simp; try omega) _)))).untouched htch (by have := bp0.lt; omega)
    replace bW := (bW.ext (by (repeat (first | exact Ext.refl _ | assumption | refine Ext.alloc ?_ _ | refine Ext.drewN ?_ _ | refine Ext.drew ?_ | refine Ext.setCell ?_ (by simp; try omega) _)))).untouched htch (by have := bW.lt; omega)
    replace bx0 := (bx0.ext (by (repeat (first | exact Ext.refl _ | assumption | refine Ext.alloc ?_ _ | refine Ext.drewN ?_ _ | refine Ext.drew ?_ | refine Ext.setCell ?_ (by simp; try omega) _)))).untouched htch (by have := bx0.lt; omega)
    replace bG := (bG.ext (by (repeat (first | exact Ext.refl _ | assumption | refine Ext.alloc ?_ _ | refine Ext.drewN ?_ _ | refine Ext.drew ?_ | refine Ext.setCell ?_ (by simp; try omega) _)))).untouched htch (by have := bG.lt; omega)
    have y := htch.ext (hx.trans (by (repeat (first | exact Ext.refl _ | assumption | refine Ext.alloc ?_ _ | refine Ext.drewN ?_ _ | refine Ext.drew ?_ | refine Ext.setCell ?_ (by simp; try omega) _)))) (by omega)
    clear hx; have hx := y; clear y
    replace i0 := hl0.ext hx
    replace oG := om
    clear om htch
    have kbp0 := bp0.out
    have zbp0 := bp0.lt
    have kbW := bW.out
    have zbW := bW.lt
    have kbx0 := bx0.out
    have zbx0 := bx0.lt
    have kbG := bG.out
    have zbG := bG.lt
    have hx0 := hx.size
    go_wp2_with fail
    refine (heldModel_c (mbI s0 p0 q0 l0 s0) (mbI s0 p0 q0 l0 p0) (mbI s0 p0 q0 l0 q0) _ _ _ (mbL s0 p0 q0 l0) 1 _ (oG.rows.ext (by (repeat (first | exact Ext.refl _ | assumption | refine Ext.alloc ?_ _ | refine Ext.drewN ?_ _ | refine Ext.drew ?_ | refine Ext.setCell ?_ (by simp; try omega) _)))) rfl (by omega) (by omega) (by omega)).mono ?_
    rintro e w10 ⟨rfl, y⟩
    clear kbp0 zbp0
    clear kbW zbW
    clear kbx0 zbx0
    clear kbG zbG
    clear hx0
    have y2 : Ext w9 w10 := Ext.trans (by (repeat (first | exact Ext.refl _ | assumption | refine Ext.alloc ?_ _ | refine Ext.drewN ?_ _ | refine Ext.drew ?_ | refine Ext.setCell ?_ (by simp; try omega) _))) y
    replace oW := oW.ext y2
    replace ox0 := ox0.ext y2
    replace oG := oG.ext y2
    replace i0 := i0.ext y2
    replace bp0 := bp0.ext y2
    replace bW := bW.ext y2
    replace bx0 := bx0.ext y2
    replace bG := bG.ext y2
    replace hx := hx.trans y2
    clear y2 y
    clear ox0
    have kbp0 := bp0.out
    have zbp0 := bp0.lt
    have kbW := bW.out
    have zbW := bW.lt
    have kbx0 := bx0.out
    have zbx0 := bx0.lt
    have kbG := bG.out
    have zbG := bG.lt
    have hx0 := hx.size
    go_wp2_with fail
    refine (toModel_c s0 p0 q0 a0 c0 l0 _ (i0.ext (by (repeat (first | exact Ext.refl _ | assumption | refine Ext.alloc ?_ _ | refine Ext.drewN ?_ _ | refine Ext.drew ?_ | refine Ext.setCell ?_ (by simp; try omega) _)))) hb0 HM0.out).mono ?_
    rintro e w11 ⟨vz0, rfl, oz0, y⟩
    clear kbp0 zbp0
    clear kbW zbW
    clear kbx0 zbx0
    clear kbG zbG
    clear hx0
    obtain ⟨az0, cz0, rfl⟩ := oz0.shape
    replace oz0 := OwnR.mono (B' := w10.heap.size + 0) oz0 (by simp) (Nat.le_refl _) (OwnRk.top oz0)
    have hBz0 := hx.size
    have hTz0 := oz0.top'
    have y2 : Ext w10 w11 := Ext.trans (by (repeat (first | exact Ext.refl _ | assumption | refine Ext.alloc ?_ _ | refine Ext.drewN ?_ _ | refine Ext.drew ?_ | refine Ext.setCell ?_ (by simp; try omega) _))) y
    replace oW := oW.ext y2
    replace oG := oG.ext y2
    replace i0 := i0.ext y2
    replace bp0 := bp0.ext y2
    replace bW := bW.ext y2
    replace bx0 := bx0.ext y2
    replace bG := bG.ext y2
    replace hx := hx.trans y2
    clear y2 y
    have kbp0 := bp0.out
    have zbp0 := bp0.lt
    have kbW := bW.out
    have zbW := bW.lt
    have kbx0 := bx0.out
    have zbx0 := bx0.lt
    have kbG := bG.out
    have zbG := bG.lt
    have hx0 := hx.size
    go_wp2_with fail
    refine (iModelBack_c s0 p0 q0 az0 cz0 l0 _ (oz0.rows.ext (by (repeat (first | exact Ext.refl _ | assumption | refine Ext.alloc ?_ _ | refine Ext.drewN ?_ _ | refine Ext.drew ?_ | refine Ext.setCell ?_ (by simp; try omega) _)))) hb0 HM0.out).mono ?_
    rintro e w12 ⟨vH, rfl, oH, y⟩
    clear kbp0 zbp0
    clear kbW zbW
    clear kbx0 zbx0
    clear kbG zbG
    clear hx0
    obtain ⟨aH, cH, rfl⟩ := oH.shape
    replace oH := OwnR.mono (B' := w11.heap.size + 0) oH (by simp) (Nat.le_refl _) (OwnRk.top oH)
    have hBH := hx.size
    have hTH := oH.top'
    have y2 : Ext w11 w12 := Ext.trans (by (repeat (first | exact Ext.refl _ | assumption | refine Ext.alloc ?_ _ | refine Ext.drewN ?_ _ | refine Ext.drew ?_ | refine Ext.setCell ?_ (by simp; try omega) _))) y
    replace oW := oW.ext y2
    replace oG := oG.ext y2
    replace oz0 := oz0.ext y2
    replace i0 := i0.ext y2
    replace bp0 := bp0.ext y2
    replace bW := bW.ext y2
    replace bx0 := bx0.ext y2
    replace bG := bG.ext y2
    replace hx := hx.trans y2
    clear y2 y
    clear oz0
    have kbp0 := bp0.out
    have zbp0 := bp0.lt
    have kbW := bW.out
    have zbW := bW.lt
    have kbx0 := bx0.out
    have zbx0 := bx0.lt
    have kbG := bG.out
    have zbG := bG.lt
    have hx0 := hx.size
    go_wp2_with fail
    refine (eqModel_c (mbI s0 p0 q0 l0 s0) (mbI s0 p0 q0 l0 p0) (mbI s0 p0 q0 l0 q0) _ _ _ _ (mbL s0 p0 q0 l0) _ (oH.rows.ext (by (repeat (first | exact Ext.refl _ | assumption | refine Ext.alloc ?_ _ | refine Ext.drewN ?_ _ | refine Ext.drew ?_ | refine Ext.setCell ?_ (by simp; try omega) _)))) (oW.rows.ext (by (repeat (first | exact Ext.refl _ | assumption | refine Ext.alloc ?_ _ | refine Ext.drewN ?_ _ | refine Ext.drew ?_ | refine Ext.setCell ?_ (by simp; try omega) _)))) (by omega) HFW.out).mono ?_
    rintro e w13 ⟨rfl, y⟩
    clear kbp0 zbp0
    clear kbW zbW
    clear kbx0 zbx0
    clear kbG zbG
    clear hx0
    have bH : BoxM w13 (w12.heap.size) (mbI s0 p0 q0 l0 s0) (mbI s0 p0 q0 l0 p0) (mbI s0 p0 q0 l0 q0) (.slice aH (mbL s0 p0 q0 l0).length cH) := BoxM.ext (by simp [BoxM, go_sem]) y
    have y2 : Ext w12 w13 := Ext.trans (by (repeat (first | exact Ext.refl _ | assumption | refine Ext.alloc ?_ _ | refine Ext.drewN ?_ _ | refine Ext.drew ?_ | refine Ext.setCell ?_ (by simp; try omega) _))) y
    replace oW := oW.ext y2
    replace oG := oG.ext y2
    replace oH := oH.ext y2
    replace i0 := i0.ext y2
    replace bp0 := bp0.ext y2
    replace bW := bW.ext y2
    replace bx0 := bx0.ext y2
    replace bG := bG.ext y2
    replace hx := hx.trans y2
    clear y2 y
    have kbp0 := bp0.out
    have zbp0 := bp0.lt
    have kbW := bW.out
    have zbW := bW.lt
    have kbx0 := bx0.out
    have zbx0 := bx0.lt
    have kbG := bG.out
    have zbG := bG.lt
    have kbH := bH.out
    have zbH := bH.lt
    have hx0 := hx.size
    go_wp2_with fail
    refine (heldModel_c (mbI s0 p0 q0 l0 s0) (mbI s0 p0 q0 l0 p0) (mbI s0 p0 q0 l0 q0) _ _ _ (mbL s0 p0 q0 l0) 1 _ (oG.rows.ext (by (repeat (first | exact Ext.refl _ | assumption | refine Ext.alloc ?_ _ | refine Ext.drewN ?_ _ | refine Ext.drew ?_ | refine Ext.setCell ?_ (by simp; try omega) _)))) rfl (by omega) (by omega) (by omega)).mono ?_
    rintro e w14 ⟨rfl, y⟩
    clear kbp0 zbp0
    clear kbW zbW
    clear kbx0 zbx0
    clear kbG zbG
    clear kbH zbH
    clear hx0
    have y2 : Ext w13 w14 := Ext.trans (by (repeat (first | exact Ext.refl _ | assumption | refine Ext.alloc ?_ _ | refine Ext.drewN ?_ _ | refine Ext.drew ?_ | refine Ext.setCell ?_ (by simp; try omega) _))) y
    replace oW := oW.ext y2
    replace oG := oG.ext y2
    replace oH := oH.ext y2
    replace i0 := i0.ext y2
    replace bp0 := bp0.ext y2
    replace bW := bW.ext y2
    replace bx0 := bx0.ext y2
    replace bG := bG.ext y2
    replace bH := bH.ext y2
    replace hx := hx.trans y2
    clear y2 y
    go_wp2
    go_ret
    exact ⟨rfl, hx⟩
end Go.Proofs.Ytfaeiihgjoognaa
