/- For all arguments: the program's StrongStates answers what the reference's does, leaves its arguments alone, and shares no memory (FnExactStrongStates). -/
import Derived.Test.YtgpfebpjiddjjaaRs
namespace Go.Proofs.Ytgpfebpjiddjjaa
set_option linter.unusedVariables false
open Go.RowKit Go.Kt

set_option maxRecDepth 100000 in
set_option maxHeartbeats 400000 in
theorem fnExactStrongStates_c (s0 p0 q0 : Int) (a0 : Option Addr) (c0 : Nat) (l0 : List (List Int)) (n1 : Int) (a2 : Option Addr) (c2 : Nat) (l2 : List Int) (w : World) (hl0 : RowsAt w a0 l0) (hlen0 : l0.length ≤ 9223372036854775807) (hrow0 : ∀ i, i < l0.length → (rowI l0 i).length ≤ 9223372036854775807) (hl2 : IntsAt w a2 l2) (hlen2 : l2.length ≤ 9223372036854775807) :
    Calls Try.prog 5 #[modelV s0 p0 q0 a0 l0.length c0, .int .i64 n1, .slice a2 l2.length c2] w fun e w' => e = .returned (.bool true) ∧ Ext w w' := by
  by_cases hb2 : l2.length ≤ 1048576
  · have hs2 : l2.length ≤ 4611686018427387904 := by omega
    have i0 := hl0
    have i2 := hl2
    have hqF : ((strongF s0 p0 q0 l0 n1 l2) != (strongF s0 p0 q0 l0 n1 l2)) = false := by simp
    have hq2 : (l2 == l2) = true := by simp
    have hx := Ext.refl w
    go_enter Try.func5, Try.ntmps5
    go_wp2_with fail
    refine (szModel_c s0 p0 q0 a0 c0 l0 1048576 _ (i0.ext (by (repeat (first | exact Ext.refl _ | assumption | refine Ext.alloc ?_ _ | refine Ext.drewN ?_ _ | refine Ext.drew ?_ | refine Ext.setCell ?_ (by simp; try omega) _)))) hlen0 hrow0 (by omega) (by omega)).mono ?_
    rintro e w1 ⟨r0, rfl, hfit0, y⟩
    have bp0 : BoxM w1 (w.heap.size) s0 p0 q0 (.slice a0 l0.length c0) := BoxM.ext (by simp [BoxM, go_sem]) y
    have hltbp0 := bp0.lt
    have y2 : Ext w w1 := Ext.trans (by (repeat (first | exact Ext.refl _ | assumption | refine Ext.alloc ?_ _ | refine Ext.drewN ?_ _ | refine Ext.drew ?_ | refine Ext.setCell ?_ (by simp; try omega) _))) y
    replace i0 := i0.ext y2
    replace i2 := i2.ext y2
    replace hx := hx.trans y2
    have hszw1 : w.heap.size ≤ w1.heap.size := y2.size
    clear y2 y
    by_cases hr0 : r0 < 0
    · go_wp2
      go_ret
      exact ⟨rfl, hx⟩
    · have hrle0 := hfit0.1
      have hft0 := hfit0.2 (by omega)
      have hb0 : l0.length ≤ 4194304 := by omega
      have htot0 : totTo l0 l0.length ≤ 1048576 := by omega
      have hm0 : ∀ i, i < l0.length → (rowI l0 i).length ≤ 4194304 := fun i hi => by have := totTo_row l0 i l0.length hi; omega
      have HM0 := Lib.hid hm0
      have HW0 : Hid (∀ i, i < l0.length → (rowI l0 i).length ≤ 4611686018427387904) := fun i hi => by have := hm0 i hi; omega
      clear hm0 hfit0 hrow0
      have kbp0 := bp0.out
      have zbp0 := bp0.lt
      have hx0 := hx.size
      go_wp2_with fail
      refine (toModel_c s0 p0 q0 a0 c0 l0 _ (i0.ext (by (repeat (first | exact Ext.refl _ | assumption | refine Ext.alloc ?_ _ | refine Ext.drewN ?_ _ | refine Ext.drew ?_ | refine Ext.setCell ?_ (by simp; try omega) _)))) hb0 HM0.out).mono ?_
      rintro e w2 ⟨vt0, rfl, ot0, y⟩
      clear kbp0 zbp0
      clear hx0
      obtain ⟨at0, ct0, rfl⟩ := ot0.shape
      replace ot0 := OwnR.mono (B' := w1.heap.size + 0) ot0 (by simp) (Nat.le_refl _) (OwnRk.top ot0)
      have hBt0 := hx.size
      have hTt0 := ot0.top'
      have y2 : Ext w1 w2 := Ext.trans (by (repeat (first | exact Ext.refl _ | assumption | refine Ext.alloc ?_ _ | refine Ext.drewN ?_ _ | refine Ext.drew ?_ | refine Ext.setCell ?_ (by simp; try omega) _))) y
      replace i0 := i0.ext y2
      replace i2 := i2.ext y2
      replace bp0 := bp0.ext y2
      replace hx := hx.trans y2
      have hszw2 : w1.heap.size ≤ w2.heap.size := y2.size
      clear y2 y
      have kbp0 := bp0.out
      have zbp0 := bp0.lt
      have hx0 := hx.size
      go_wp2_with fail
      refine (toIntS_c a2 c2 l2 _ (i2.ext (by (repeat (first | exact Ext.refl _ | assumption | refine Ext.alloc ?_ _ | refine Ext.drewN ?_ _ | refine Ext.drew ?_ | refine Ext.setCell ?_ (by simp; try omega) _)))) (by omega)).mono ?_
      rintro e w3 ⟨vt2, rfl, ot2, y⟩
      clear kbp0 zbp0
      clear hx0
      obtain ⟨at2, ct2, rfl, -⟩ := ot2.shape
      replace ot2 := ot2.mono (Below.size (show Ext w2 _ from by (repeat (first | exact Ext.refl _ | assumption | refine Ext.alloc ?_ _ | refine Ext.drewN ?_ _ | refine Ext.drew ?_ | refine Ext.setCell ?_ (by simp; try omega) _))))
      have hBt2 := hx.size
      have hTt2 := Lib.hid (World.ownsRow.lt ot2)
      have y2 : Ext w2 w3 := Ext.trans (by (repeat (first | exact Ext.refl _ | assumption | refine Ext.alloc ?_ _ | refine Ext.drewN ?_ _ | refine Ext.drew ?_ | refine Ext.setCell ?_ (by simp; try omega) _))) y
      replace ot0 := ot0.ext y2
      replace i0 := i0.ext y2
      replace i2 := i2.ext y2
      replace bp0 := bp0.ext y2
      replace hx := hx.trans y2
      have hszw3 : w2.heap.size ≤ w3.heap.size := y2.size
      clear y2 y
      have kbp0 := bp0.out
      have zbp0 := bp0.lt
      have hx0 := hx.size
      go_wp2_with fail
      refine (sStrongStates_c s0 p0 q0 at0 ct0 l0 n1 at2 ct2 l2 _ (ot0.rows.ext (by (repeat (first | exact Ext.refl _ | assumption | refine Ext.alloc ?_ _ | refine Ext.drewN ?_ _ | refine Ext.drew ?_ | refine Ext.setCell ?_ (by simp; try omega) _)))) hb0 HM0.out (ot2.ints.ext (by (repeat (first | exact Ext.refl _ | assumption | refine Ext.alloc ?_ _ | refine Ext.drewN ?_ _ | refine Ext.drew ?_ | refine Ext.setCell ?_ (by simp; try omega) _)))) hb2 (own_capv ot2)).mono ?_
      rintro e w4 ⟨rfl, y⟩
      clear kbp0 zbp0
      clear hx0
      have y2 : Ext w3 w4 := Ext.trans (by (repeat (first | exact Ext.refl _ | assumption | refine Ext.alloc ?_ _ | refine Ext.drewN ?_ _ | refine Ext.drew ?_ | refine Ext.setCell ?_ (by simp; try omega) _))) y
      replace ot0 := ot0.ext y2
      replace ot2 := ot2.ext y2
      replace i0 := i0.ext y2
      replace i2 := i2.ext y2
      replace bp0 := bp0.ext y2
      replace hx := hx.trans y2
      have hszw4 : w3.heap.size ≤ w4.heap.size := y2.size
      clear y2 y
      clear ot0
      clear ot2
      have kbp0 := bp0.out
      have zbp0 := bp0.lt
      have hx0 := hx.size
      go_wp2_with fail
      refine (toModel_c s0 p0 q0 a0 c0 l0 _ (i0.ext (by (repeat (first | exact Ext.refl _ | assumption | refine Ext.alloc ?_ _ | refine Ext.drewN ?_ _ | refine Ext.drew ?_ | refine Ext.setCell ?_ (by simp; try omega) _)))) hb0 HM0.out).mono ?_
      rintro e w5 ⟨vx0, rfl, ox0, y⟩
      clear kbp0 zbp0
      clear hx0
      obtain ⟨ax0, cx0, rfl⟩ := ox0.shape
      replace ox0 := OwnR.mono (B' := w4.heap.size + 0) ox0 (by simp) (Nat.le_refl _) (OwnRk.top ox0)
      have hBx0 := hx.size
      have hTx0 := ox0.top'
      have y2 : Ext w4 w5 := Ext.trans (by (repeat (first | exact Ext.refl _ | assumption | refine Ext.alloc ?_ _ | refine Ext.drewN ?_ _ | refine Ext.drew ?_ | refine Ext.setCell ?_ (by simp; try omega) _))) y
      replace i0 := i0.ext y2
      replace i2 := i2.ext y2
      replace bp0 := bp0.ext y2
      replace hx := hx.trans y2
      have hszw5 : w4.heap.size ≤ w5.heap.size := y2.size
      clear y2 y
      have kbp0 := bp0.out
      have zbp0 := bp0.lt
      have hx0 := hx.size
      go_wp2_with fail
      refine (toIntS_c a2 c2 l2 _ (i2.ext (by (repeat (first | exact Ext.refl _ | assumption | refine Ext.alloc ?_ _ | refine Ext.drewN ?_ _ | refine Ext.drew ?_ | refine Ext.setCell ?_ (by simp; try omega) _)))) (by omega)).mono ?_
      rintro e w6 ⟨vx2, rfl, ox2, y⟩
      clear kbp0 zbp0
      clear hx0
      obtain ⟨ax2, cx2, rfl, -⟩ := ox2.shape
      replace ox2 := ox2.mono (B' := w5.heap.size + 1) (by simp)
      have hBx2 := hx.size
      have hTx2 := Lib.hid (World.ownsRow.lt ox2)
      have bx0 : BoxM w6 (w5.heap.size) s0 p0 q0 (.slice ax0 l0.length cx0) := BoxM.ext (by simp [BoxM, go_sem]) y
      have hltbx0 := bx0.lt
      have y2 : Ext w5 w6 := Ext.trans (by (repeat (first | exact Ext.refl _ | assumption | refine Ext.alloc ?_ _ | refine Ext.drewN ?_ _ | refine Ext.drew ?_ | refine Ext.setCell ?_ (by simp; try omega) _))) y
      replace ox0 := ox0.ext y2
      replace i0 := i0.ext y2
      replace i2 := i2.ext y2
      replace bp0 := bp0.ext y2
      replace hx := hx.trans y2
      have hszw6 : w5.heap.size ≤ w6.heap.size := y2.size
      clear y2 y
      have kbp0 := bp0.out
      have zbp0 := bp0.lt
      have kbx0 := bx0.out
      have zbx0 := bx0.lt
      have hx0 := hx.size
      go_wp2_with fail
      refine (iStrongStates_c s0 p0 q0 ax0 cx0 l0 n1 ax2 cx2 l2 _ (ox0.rows.ext (by (repeat (first | exact Ext.refl _ | assumption | refine Ext.alloc ?_ _ | refine Ext.drewN ?_ _ | refine Ext.drew ?_ | refine Ext.setCell ?_ (by simp; try omega) _)))) hb0 HM0.out (ox2.ints.ext (by (repeat (first | exact Ext.refl _ | assumption | refine Ext.alloc ?_ _ | refine Ext.drewN ?_ _ | refine Ext.drew ?_ | refine Ext.setCell ?_ (by simp; try omega) _)))) hb2).mono ?_
      rintro e w7 ⟨rfl, y⟩
      clear kbp0 zbp0
      clear kbx0 zbx0
      clear hx0
      have y2 : Ext w6 w7 := Ext.trans (by (repeat (first | exact Ext.refl _ | assumption | refine Ext.alloc ?_ _ | refine Ext.drewN ?_ _ | refine Ext.drew ?_ | refine Ext.setCell ?_ (by simp; try omega) _))) y
      replace ox0 := ox0.ext y2
      replace ox2 := ox2.ext y2
      replace i0 := i0.ext y2
      replace i2 := i2.ext y2
      replace bp0 := bp0.ext y2
      replace bx0 := bx0.ext y2
      replace hx := hx.trans y2
      have hszw7 : w6.heap.size ≤ w7.heap.size := y2.size
      clear y2 y
      have kbp0 := bp0.out
      have zbp0 := bp0.lt
      have kbx0 := bx0.out
      have zbx0 := bx0.lt
      have hx0 := hx.size
      go_wp2_with fail
      have bpk := bp0
      have bxk := bx0
      have hik := i0
      have hok := ox0.rows
      have hek : Ext w7 w7 := Ext.refl _
      have HEK := Lib.hid hek
      clear hek
      have HBK := Lib.hid bxk; have HPK := Lib.hid bpk; clear bxk bpk
      go_region_held3 (fun w' => w'.cell? ⟨w5.heap.size, 0, none⟩ = some (.int .i64 s0) ∧ w'.cell? ⟨w5.heap.size, 1, none⟩ = some (.int .i64 p0) ∧ w'.cell? ⟨w5.heap.size, 2, none⟩ = some (.int .i64 q0) ∧ w'.cell? ⟨w5.heap.size, 3, none⟩ = some (.slice ax0 l0.length cx0) ∧ w'.cell? ⟨w.heap.size, 0, none⟩ = some (.int .i64 s0) ∧ w'.cell? ⟨w.heap.size, 1, none⟩ = some (.int .i64 p0) ∧ w'.cell? ⟨w.heap.size, 2, none⟩ = some (.int .i64 q0) ∧ w'.cell? ⟨w.heap.size, 3, none⟩ = some (.slice a0 l0.length c0))
        (first
          | go_keep
          | (have hk1 := HBK.out.ext (Ext.trans (Ext.drew (Ext.refl _)) yk); have hk2 := HPK.out.ext (Ext.trans (Ext.drew (Ext.refl _)) yk); exact ⟨hk1.1, hk1.2.1, hk1.2.2.1, hk1.2.2.2, hk2.1, hk2.2.1, hk2.2.2.1, hk2.2.2.2⟩)
          | (have hk1 := HBK.out.ext (Ext.trans (Ext.trans (Ext.drew (Ext.refl _)) yk) yl); have hk2 := HPK.out.ext (Ext.trans (Ext.trans (Ext.drew (Ext.refl _)) yk) yl); exact ⟨hk1.1, hk1.2.1, hk1.2.2.1, hk1.2.2.2, hk2.1, hk2.2.1, hk2.2.2.1, hk2.2.2.2⟩))
        ((first
          | (go_at_call 10; refine (toModel_c s0 p0 q0 a0 c0 l0 _ (hik.ext (by (repeat (first | exact Ext.refl _ | assumption | refine Ext.alloc ?_ _ | refine Ext.drewN ?_ _ | refine Ext.drew ?_ | refine Ext.setCell ?_ (by simp; try omega) _)))) hb0 HM0.out).mono ?_; rintro e wk ⟨vk, rfl, ok, yk⟩; obtain ⟨ak, ck, rfl⟩ := ok.shape)
          | (go_at_call 13; refine (eqModel_c s0 p0 q0 _ _ _ _ l0 _ (hok.ext (Ext.trans (by (repeat (first | exact Ext.refl _ | assumption | refine Ext.alloc ?_ _ | refine Ext.drewN ?_ _ | refine Ext.drew ?_ | refine Ext.setCell ?_ (by simp; try omega) _))) yk)) (ok.rows.ext (by (repeat (first | exact Ext.refl _ | assumption | refine Ext.alloc ?_ _ | refine Ext.drewN ?_ _ | refine Ext.drew ?_ | refine Ext.setCell ?_ (by simp; try omega) _)))) (by omega) HW0.out).mono ?_; rintro e wl ⟨rfl, yl⟩)))
      have y3 : Ext w7 wl := Ext.trans (Ext.trans (by (repeat (first | exact Ext.refl _ | assumption | refine Ext.alloc ?_ _ | refine Ext.drewN ?_ _ | refine Ext.drew ?_ | refine Ext.setCell ?_ (by simp; try omega) _)) : Ext w7 _) yk) (Ext.trans (by (repeat (first | exact Ext.refl _ | assumption | refine Ext.alloc ?_ _ | refine Ext.drewN ?_ _ | refine Ext.drew ?_ | refine Ext.setCell ?_ (by simp; try omega) _))) yl)
      replace hx := hx.trans y3
      have hszl : w7.heap.size ≤ wl.heap.size := y3.size
      clear kbp0 zbp0
      clear kbx0 zbx0
      clear hx0
      replace ox0 := ox0.ext y3
      replace ox2 := ox2.ext y3
      replace i0 := i0.ext y3
      replace i2 := i2.ext y3
      replace bp0 := bp0.ext y3
      replace bx0 := bx0.ext y3
      clear y3
      clear yk yl ok hik hok HBK HPK HEK
      have kbp0 := bp0.out
      have zbp0 := bp0.lt
      have kbx0 := bx0.out
      have zbx0 := bx0.lt
      have hx0 := hx.size
      go_wp2_with fail
      refine (toIntS_c a2 c2 l2 _ i2 (by omega)).mono ?_
      rintro e w8 ⟨vu2, rfl, ou2, y⟩
      clear kbp0 zbp0
      clear kbx0 zbx0
      clear hx0
      obtain ⟨au2, cu2, rfl, -⟩ := ou2.shape
      replace ou2 := ou2.mono (Below.size (show Ext wl _ from by (repeat (first | exact Ext.refl _ | assumption | refine Ext.alloc ?_ _ | refine Ext.drewN ?_ _ | refine Ext.drew ?_ | refine Ext.setCell ?_ (by simp; try omega) _))))
      have apx2u2 := Lib.hid (own_apart ox2 ou2 (by omega))
      have hBu2 := hx.size
      have hTu2 := Lib.hid (World.ownsRow.lt ou2)
      have y2 : Ext wl w8 := Ext.trans (by (repeat (first | exact Ext.refl _ | assumption | refine Ext.alloc ?_ _ | refine Ext.drewN ?_ _ | refine Ext.drew ?_ | refine Ext.setCell ?_ (by simp; try omega) _))) y
      replace ox0 := ox0.ext y2
      replace ox2 := ox2.ext y2
      replace i0 := i0.ext y2
      replace i2 := i2.ext y2
      replace bp0 := bp0.ext y2
      replace bx0 := bx0.ext y2
      replace hx := hx.trans y2
      have hszw8 : wl.heap.size ≤ w8.heap.size := y2.size
      clear y2 y
      have kbp0 := bp0.out
      have zbp0 := bp0.lt
      have kbx0 := bx0.out
      have zbx0 := bx0.lt
      have hx0 := hx.size
      go_wp2_with fail
      refine (eqIntS_c _ _ _ _ l2 l2 _ (ox2.ints.ext (by (repeat (first | exact Ext.refl _ | assumption | refine Ext.alloc ?_ _ | refine Ext.drewN ?_ _ | refine Ext.drew ?_ | refine Ext.setCell ?_ (by simp; try omega) _)))) (ou2.ints.ext (by (repeat (first | exact Ext.refl _ | assumption | refine Ext.alloc ?_ _ | refine Ext.drewN ?_ _ | refine Ext.drew ?_ | refine Ext.setCell ?_ (by simp; try omega) _)))) hs2 hs2).mono ?_
      rintro e w9 ⟨rfl, y⟩
      clear kbp0 zbp0
      clear kbx0 zbx0
      clear hx0
      have y2 : Ext w8 w9 := Ext.trans (by (repeat (first | exact Ext.refl _ | assumption | refine Ext.alloc ?_ _ | refine Ext.drewN ?_ _ | refine Ext.drew ?_ | refine Ext.setCell ?_ (by simp; try omega) _))) y
      replace ox0 := ox0.ext y2
      replace ox2 := ox2.ext y2
      replace ou2 := ou2.ext y2
      replace i0 := i0.ext y2
      replace i2 := i2.ext y2
      replace bp0 := bp0.ext y2
      replace bx0 := bx0.ext y2
      replace hx := hx.trans y2
      have hszw9 : w8.heap.size ≤ w9.heap.size := y2.size
      clear y2 y
      clear ou2
      go_wp2
      go_ret
      exact ⟨rfl, hx⟩
  · go_enter Try.func5, Try.ntmps5
    go_wp2
    go_ret
    exact ⟨rfl, by (repeat (first | exact Ext.refl _ | assumption | refine Ext.alloc ?_ _ | refine Ext.drewN ?_ _ | refine Ext.drew ?_ | refine Ext.setCell ?_ (by simp; try omega) _))⟩
end Go.Proofs.Ytgpfebpjiddjjaa
