/- For all arguments: the program's TraceRows answers what the reference's does, leaves its arguments alone, and shares no memory (FnExactTraceRows). -/
import Derived.Test.YtgpfebpjiddjjaaTq
namespace Go.Proofs.Ytgpfebpjiddjjaa
set_option linter.unusedVariables false
open Go.RowKit Go.Kt

set_option maxRecDepth 100000 in
set_option maxHeartbeats 400000 in
theorem fnExactTraceRows_c (s0 p0 q0 : Int) (a0 : Option Addr) (c0 : Nat) (l0 : List (List Int)) (a1 : Option Addr) (c1 : Nat) (l1 : List Int) (w : World) (hl0 : RowsAt w a0 l0) (hlen0 : l0.length ≤ 9223372036854775807) (hrow0 : ∀ i, i < l0.length → (rowI l0 i).length ≤ 9223372036854775807) (hl1 : IntsAt w a1 l1) (hlen1 : l1.length ≤ 9223372036854775807) :
    Calls Try.prog 4 #[modelV s0 p0 q0 a0 l0.length c0, .slice a1 l1.length c1] w fun e w' => e = .returned (.bool true) ∧ Ext w w' := by
  by_cases hb1 : l1.length ≤ 1048576
  · have hs1 : l1.length ≤ 4611686018427387904 := by omega
    have i0 := hl0
    have i1 := hl1
    have hqF : ((traceF s0 p0 q0 l0 l1) == (traceF s0 p0 q0 l0 l1)) = true := by simp
    have hFl := traceF_len s0 p0 q0 l0 l1
    have hFl2 : (traceF s0 p0 q0 l0 l1).length ≤ 4611686018427387904 := by omega
    have hq1 : (l1 == l1) = true := by simp
    have hx := Ext.refl w
    go_enter Try.func4, Try.ntmps4
    go_wp2_with fail
    refine (szModel_c s0 p0 q0 a0 c0 l0 1048576 _ (i0.ext (by (repeat (first | exact Ext.refl _ | assumption | refine Ext.alloc ?_ _ | refine Ext.drewN ?_ _ | refine Ext.drew ?_ | refine Ext.setCell ?_ (by simp; try omega) _)))) hlen0 hrow0 (by omega) (by omega)).mono ?_
    rintro e w1 ⟨r0, rfl, hfit0, y⟩
    have bp0 : BoxM w1 (w.heap.size) s0 p0 q0 (.slice a0 l0.length c0) := BoxM.ext (by simp [BoxM, go_sem]) y
    have hltbp0 := bp0.lt
    have y2 : Ext w w1 := Ext.trans (by (repeat (first | exact Ext.refl _ | assumption | refine Ext.alloc ?_ _ | refine Ext.drewN ?_ _ | refine Ext.drew ?_ | refine Ext.setCell ?_ (by simp; try omega) _))) y
    replace i0 := i0.ext y2
    replace i1 := i1.ext y2
    replace hx := hx.trans y2
    have hszw1 : w.heap.size ≤ w1.heap.size := y2.size
    clear y2 y
    by_cases hr0 : r0 < 0
    · go_wp2
      go_ret
      exact ⟨rfl, hx⟩
    · have hrle0 := hfit0.1
      have hft0 := hfit0.2 (by omega)
      have hb0 : l0.length ≤ 4194304 := by omega
      have htot0 : totTo l0 l0.length ≤ 1048576 := by omega
      have hm0 : ∀ i, i < l0.length → (rowI l0 i).length ≤ 4194304 := fun i hi => by have := totTo_row l0 i l0.length hi; omega
      have HM0 := Lib.hid hm0
      have HW0 : Hid (∀ i, i < l0.length → (rowI l0 i).length ≤ 4611686018427387904) := fun i hi => by have := hm0 i hi; omega
      clear hm0 hfit0 hrow0
      have kbp0 := bp0.out
      have zbp0 := bp0.lt
      have hx0 := hx.size
      go_wp2_with fail
      refine (toModel_c s0 p0 q0 a0 c0 l0 _ (i0.ext (by (repeat (first | exact Ext.refl _ | assumption | refine Ext.alloc ?_ _ | refine Ext.drewN ?_ _ | refine Ext.drew ?_ | refine Ext.setCell ?_ (by simp; try omega) _)))) hb0 HM0.out).mono ?_
      rintro e w2 ⟨vt0, rfl, ot0, y⟩
      clear kbp0 zbp0
      clear hx0
      obtain ⟨at0, ct0, rfl⟩ := ot0.shape
      replace ot0 := OwnR.mono (B' := w1.heap.size + 0) ot0 (by simp) (Nat.le_refl _) (OwnRk.top ot0)
      have hBt0 := hx.size
      have hTt0 := ot0.top'
      have y2 : Ext w1 w2 := Ext.trans (by (repeat (first | exact Ext.refl _ | assumption | refine Ext.alloc ?_ _ | refine Ext.drewN ?_ _ | refine Ext.drew ?_ | refine Ext.setCell ?_ (by simp; try omega) _))) y
      replace i0 := i0.ext y2
      replace i1 := i1.ext y2
      replace bp0 := bp0.ext y2
      replace hx := hx.trans y2
      have hszw2 : w1.heap.size ≤ w2.heap.size := y2.size
      clear y2 y
      have kbp0 := bp0.out
      have zbp0 := bp0.lt
      have hx0 := hx.size
      go_wp2_with fail
      refine (toIntS_c a1 c1 l1 _ (i1.ext (by (repeat (first | exact Ext.refl _ | assumption | refine Ext.alloc ?_ _ | refine Ext.drewN ?_ _ | refine Ext.drew ?_ | refine Ext.setCell ?_ (by simp; try omega) _)))) (by omega)).mono ?_
      rintro e w3 ⟨vt1, rfl, ot1, y⟩
      clear kbp0 zbp0
      clear hx0
      obtain ⟨at1, ct1, rfl, -⟩ := ot1.shape
      replace ot1 := ot1.mono (Below.size (show Ext w2 _ from by (repeat (first | exact Ext.refl _ | assumption | refine Ext.alloc ?_ _ | refine Ext.drewN ?_ _ | refine Ext.drew ?_ | refine Ext.setCell ?_ (by simp; try omega) _))))
      have hBt1 := hx.size
      have hTt1 := Lib.hid (World.ownsRow.lt ot1)
      have y2 : Ext w2 w3 := Ext.trans (by (repeat (first | exact Ext.refl _ | assumption | refine Ext.alloc ?_ _ | refine Ext.drewN ?_ _ | refine Ext.drew ?_ | refine Ext.setCell ?_ (by simp; try omega) _))) y
      replace ot0 := ot0.ext y2
      replace i0 := i0.ext y2
      replace i1 := i1.ext y2
      replace bp0 := bp0.ext y2
      replace hx := hx.trans y2
      have hszw3 : w2.heap.size ≤ w3.heap.size := y2.size
      clear y2 y
      have kbp0 := bp0.out
      have zbp0 := bp0.lt
      have hx0 := hx.size
      go_wp2_with fail
      refine (sTraceRows_c s0 p0 q0 at0 ct0 l0 at1 ct1 l1 _ (ot0.rows.ext (by (repeat (first | exact Ext.refl _ | assumption | refine Ext.alloc ?_ _ | refine Ext.drewN ?_ _ | refine Ext.drew ?_ | refine Ext.setCell ?_ (by simp; try omega) _)))) hb0 HM0.out (ot1.ints.ext (by (repeat (first | exact Ext.refl _ | assumption | refine Ext.alloc ?_ _ | refine Ext.drewN ?_ _ | refine Ext.drew ?_ | refine Ext.setCell ?_ (by simp; try omega) _)))) hb1).mono ?_
      rintro e w4 ⟨vW, rfl, oW, y⟩
      clear kbp0 zbp0
      clear hx0
      obtain ⟨aW, cW, rfl, -⟩ := oW.shape
      replace oW := oW.mono (Below.size (show Ext w3 _ from by (repeat (first | exact Ext.refl _ | assumption | refine Ext.alloc ?_ _ | refine Ext.drewN ?_ _ | refine Ext.drew ?_ | refine Ext.setCell ?_ (by simp; try omega) _))))
      have apt1W := Lib.hid (own_apart ot1 oW (by omega))
      have hBW := hx.size
      have hTW := Lib.hid (World.ownsRow.lt oW)
      have y2 : Ext w3 w4 := Ext.trans (by (repeat (first | exact Ext.refl _ | assumption | refine Ext.alloc ?_ _ | refine Ext.drewN ?_ _ | refine Ext.drew ?_ | refine Ext.setCell ?_ (by simp; try omega) _))) y
      replace ot0 := ot0.ext y2
      replace ot1 := ot1.ext y2
      replace i0 := i0.ext y2
      replace i1 := i1.ext y2
      replace bp0 := bp0.ext y2
      replace hx := hx.trans y2
      have hszw4 : w3.heap.size ≤ w4.heap.size := y2.size
      clear y2 y
      clear ot0
      clear ot1
      have kbp0 := bp0.out
      have zbp0 := bp0.lt
      have hx0 := hx.size
      go_wp2_with fail
      refine (toModel_c s0 p0 q0 a0 c0 l0 _ (i0.ext (by (repeat (first | exact Ext.refl _ | assumption | refine Ext.alloc ?_ _ | refine Ext.drewN ?_ _ | refine Ext.drew ?_ | refine Ext.setCell ?_ (by simp; try omega) _)))) hb0 HM0.out).mono ?_
      rintro e w5 ⟨vx0, rfl, ox0, y⟩
      clear kbp0 zbp0
      clear hx0
      obtain ⟨ax0, cx0, rfl⟩ := ox0.shape
      replace ox0 := OwnR.mono (B' := w4.heap.size + 0) ox0 (by simp) (Nat.le_refl _) (OwnRk.top ox0)
      have hBx0 := hx.size
      have hTx0 := ox0.top'
      have y2 : Ext w4 w5 := Ext.trans (by (repeat (first | exact Ext.refl _ | assumption | refine Ext.alloc ?_ _ | refine Ext.drewN ?_ _ | refine Ext.drew ?_ | refine Ext.setCell ?_ (by simp; try omega) _))) y
      replace oW := oW.ext y2
      replace i0 := i0.ext y2
      replace i1 := i1.ext y2
      replace bp0 := bp0.ext y2
      replace hx := hx.trans y2
      have hszw5 : w4.heap.size ≤ w5.heap.size := y2.size
      clear y2 y
      have kbp0 := bp0.out
      have zbp0 := bp0.lt
      have hx0 := hx.size
      go_wp2_with fail
      refine (toIntS_c a1 c1 l1 _ (i1.ext (by (repeat (first | exact Ext.refl _ | assumption | refine Ext.alloc ?_ _ | refine Ext.drewN ?_ _ | refine Ext.drew ?_ | refine Ext.setCell ?_ (by simp; try omega) _)))) (by omega)).mono ?_
      rintro e w6 ⟨vx1, rfl, ox1, y⟩
      clear kbp0 zbp0
      clear hx0
      obtain ⟨ax1, cx1, rfl, -⟩ := ox1.shape
      replace ox1 := ox1.mono (B' := w5.heap.size + 1) (by simp)
      have apWx1 := Lib.hid (own_apart oW ox1 (by omega))
      have hBx1 := hx.size
      have hTx1 := Lib.hid (World.ownsRow.lt ox1)
      have bx0 : BoxM w6 (w5.heap.size) s0 p0 q0 (.slice ax0 l0.length cx0) := BoxM.ext (by simp [BoxM, go_sem]) y
      have hltbx0 := bx0.lt
      have y2 : Ext w5 w6 := Ext.trans (by (repeat (first | exact Ext.refl _ | assumption | refine Ext.alloc ?_ _ | refine Ext.drewN ?_ _ | refine Ext.drew ?_ | refine Ext.setCell ?_ (by simp; try omega) _))) y
      replace oW := oW.ext y2
      replace ox0 := ox0.ext y2
      replace i0 := i0.ext y2
      replace i1 := i1.ext y2
      replace bp0 := bp0.ext y2
      replace hx := hx.trans y2
      have hszw6 : w5.heap.size ≤ w6.heap.size := y2.size
      clear y2 y
      have kbp0 := bp0.out
      have zbp0 := bp0.lt
      have kbx0 := bx0.out
      have zbx0 := bx0.lt
      have hx0 := hx.size
      go_wp2_with fail
      refine (iTraceRows_c s0 p0 q0 ax0 cx0 l0 ax1 cx1 l1 _ (ox0.rows.ext (by (repeat (first | exact Ext.refl _ | assumption | refine Ext.alloc ?_ _ | refine Ext.drewN ?_ _ | refine Ext.drew ?_ | refine Ext.setCell ?_ (by simp; try omega) _)))) hb0 HM0.out (ox1.ints.ext (by (repeat (first | exact Ext.refl _ | assumption | refine Ext.alloc ?_ _ | refine Ext.drewN ?_ _ | refine Ext.drew ?_ | refine Ext.setCell ?_ (by simp; try omega) _)))) hb1).mono ?_
      rintro e w7 ⟨vG, rfl, oG, y⟩
      clear kbp0 zbp0
      clear kbx0 zbx0
      clear hx0
      obtain ⟨aG, cG, rfl, -⟩ := oG.shape
      replace oG := oG.mono (Below.size (show Ext w6 _ from by (repeat (first | exact Ext.refl _ | assumption | refine Ext.alloc ?_ _ | refine Ext.drewN ?_ _ | refine Ext.drew ?_ | refine Ext.setCell ?_ (by simp; try omega) _))))
      have apWG := Lib.hid (own_apart oW oG (by omega))
      have apx1G := Lib.hid (own_apart ox1 oG (by omega))
      have hBG := hx.size
      have hTG := Lib.hid (World.ownsRow.lt oG)
      have y2 : Ext w6 w7 := Ext.trans (by (repeat (first | exact Ext.refl _ | assumption | refine Ext.alloc ?_ _ | refine Ext.drewN ?_ _ | refine Ext.drew ?_ | refine Ext.setCell ?_ (by simp; try omega) _))) y
      replace oW := oW.ext y2
      replace ox0 := ox0.ext y2
      replace ox1 := ox1.ext y2
      replace i0 := i0.ext y2
      replace i1 := i1.ext y2
      replace bp0 := bp0.ext y2
      replace bx0 := bx0.ext y2
      replace hx := hx.trans y2
      have hszw7 : w6.heap.size ≤ w7.heap.size := y2.size
      clear y2 y
      have kbp0 := bp0.out
      have zbp0 := bp0.lt
      have kbx0 := bx0.out
      have zbx0 := bx0.lt
      have hx0 := hx.size
      go_wp2_with fail
      refine (eqIntS_c _ _ _ _ (traceF s0 p0 q0 l0 l1) (traceF s0 p0 q0 l0 l1) _ (oG.ints.ext (by (repeat (first | exact Ext.refl _ | assumption | refine Ext.alloc ?_ _ | refine Ext.drewN ?_ _ | refine Ext.drew ?_ | refine Ext.setCell ?_ (by simp; try omega) _)))) (oW.ints.ext (by (repeat (first | exact Ext.refl _ | assumption | refine Ext.alloc ?_ _ | refine Ext.drewN ?_ _ | refine Ext.drew ?_ | refine Ext.setCell ?_ (by simp; try omega) _)))) hFl2 hFl2).mono ?_
      rintro e w8 ⟨rfl, y⟩
      clear kbp0 zbp0
      clear kbx0 zbx0
      clear hx0
      have y2 : Ext w7 w8 := Ext.trans (by (repeat (first | exact Ext.refl _ | assumption | refine Ext.alloc ?_ _ | refine Ext.drewN ?_ _ | refine Ext.drew ?_ | refine Ext.setCell ?_ (by simp; try omega) _))) y
      replace oW := oW.ext y2
      replace ox0 := ox0.ext y2
      replace ox1 := ox1.ext y2
      replace oG := oG.ext y2
      replace i0 := i0.ext y2
      replace i1 := i1.ext y2
      replace bp0 := bp0.ext y2
      replace bx0 := bx0.ext y2
      replace hx := hx.trans y2
      have hszw8 : w7.heap.size ≤ w8.heap.size := y2.size
      clear y2 y
      have kbp0 := bp0.out
      have zbp0 := bp0.lt
      have kbx0 := bx0.out
      have zbx0 := bx0.lt
      have hx0 := hx.size
      go_wp2_with fail
      have bpk := bp0
      have bxk := bx0
      have hik := i0
      have hok := ox0.rows
      have hek : Ext w8 w8 := Ext.refl _
      have HEK := Lib.hid hek
      clear hek
      have HBK := Lib.hid bxk; have HPK := Lib.hid bpk; clear bxk bpk
      go_region_held3 (fun w' => w'.cell? ⟨w5.heap.size, 0, none⟩ = some (.int .i64 s0) ∧ w'.cell? ⟨w5.heap.size, 1, none⟩ = some (.int .i64 p0) ∧ w'.cell? ⟨w5.heap.size, 2, none⟩ = some (.int .i64 q0) ∧ w'.cell? ⟨w5.heap.size, 3, none⟩ = some (.slice ax0 l0.length cx0) ∧ w'.cell? ⟨w.heap.size, 0, none⟩ = some (.int .i64 s0) ∧ w'.cell? ⟨w.heap.size, 1, none⟩ = some (.int .i64 p0) ∧ w'.cell? ⟨w.heap.size, 2, none⟩ = some (.int .i64 q0) ∧ w'.cell? ⟨w.heap.size, 3, none⟩ = some (.slice a0 l0.length c0))
        (first
          | go_keep
          | (have hk1 := HBK.out.ext (Ext.trans (Ext.drew (Ext.refl _)) yk); have hk2 := HPK.out.ext (Ext.trans (Ext.drew (Ext.refl _)) yk); exact ⟨hk1.1, hk1.2.1, hk1.2.2.1, hk1.2.2.2, hk2.1, hk2.2.1, hk2.2.2.1, hk2.2.2.2⟩)
          | (have hk1 := HBK.out.ext (Ext.trans (Ext.trans (Ext.drew (Ext.refl _)) yk) yl); have hk2 := HPK.out.ext (Ext.trans (Ext.trans (Ext.drew (Ext.refl _)) yk) yl); exact ⟨hk1.1, hk1.2.1, hk1.2.2.1, hk1.2.2.2, hk2.1, hk2.2.1, hk2.2.2.1, hk2.2.2.2⟩))
        ((first
          | (go_at_call 10; refine (toModel_c s0 p0 q0 a0 c0 l0 _ (hik.ext (by (repeat (first | exact Ext.refl _ | assumption | refine Ext.alloc ?_ _ | refine Ext.drewN ?_ _ | refine Ext.drew ?_ | refine Ext.setCell ?_ (by simp; try omega) _)))) hb0 HM0.out).mono ?_; rintro e wk ⟨vk, rfl, ok, yk⟩; obtain ⟨ak, ck, rfl⟩ := ok.shape)
          | (go_at_call 13; refine (eqModel_c s0 p0 q0 _ _ _ _ l0 _ (hok.ext (Ext.trans (by (repeat (first | exact Ext.refl _ | assumption | refine Ext.alloc ?_ _ | refine Ext.drewN ?_ _ | refine Ext.drew ?_ | refine Ext.setCell ?_ (by simp; try omega) _))) yk)) (ok.rows.ext (by (repeat (first | exact Ext.refl _ | assumption | refine Ext.alloc ?_ _ | refine Ext.drewN ?_ _ | refine Ext.drew ?_ | refine Ext.setCell ?_ (by simp; try omega) _)))) (by omega) HW0.out).mono ?_; rintro e wl ⟨rfl, yl⟩)))
      have y3 : Ext w8 wl := Ext.trans (Ext.trans (by (repeat (first | exact Ext.refl _ | assumption | refine Ext.alloc ?_ _ | refine Ext.drewN ?_ _ | refine Ext.drew ?_ | refine Ext.setCell ?_ (by simp; try omega) _)) : Ext w8 _) yk) (Ext.trans (by (repeat (first | exact Ext.refl _ | assumption | refine Ext.alloc ?_ _ | refine Ext.drewN ?_ _ | refine Ext.drew ?_ | refine Ext.setCell ?_ (by simp; try omega) _))) yl)
      replace hx := hx.trans y3
      have hszl : w8.heap.size ≤ wl.heap.size := y3.size
      clear kbp0 zbp0
      clear kbx0 zbx0
      clear hx0
      replace oW := oW.ext y3
      replace ox0 := ox0.ext y3
      replace ox1 := ox1.ext y3
      replace oG := oG.ext y3
      replace i0 := i0.ext y3
      replace i1 := i1.ext y3
      replace bp0 := bp0.ext y3
      replace bx0 := bx0.ext y3
      clear y3
      clear yk yl ok hik hok HBK HPK HEK
      have kbp0 := bp0.out
      have zbp0 := bp0.lt
      have kbx0 := bx0.out
      have zbx0 := bx0.lt
      have hx0 := hx.size
      go_wp2_with fail
      refine (toIntS_c a1 c1 l1 _ i1 (by omega)).mono ?_
      rintro e w9 ⟨vu1, rfl, ou1, y⟩
      clear kbp0 zbp0
      clear kbx0 zbx0
      clear hx0
      obtain ⟨au1, cu1, rfl, -⟩ := ou1.shape
      replace ou1 := ou1.mono (Below.size (show Ext wl _ from by (repeat (first | exact Ext.refl _ | assumption | refine Ext.alloc ?_ _ | refine Ext.drewN ?_ _ | refine Ext.drew ?_ | refine Ext.setCell ?_ (by simp; try omega) _))))
      have apWu1 := Lib.hid (own_apart oW ou1 (by omega))
      have apx1u1 := Lib.hid (own_apart ox1 ou1 (by omega))
      have apGu1 := Lib.hid (own_apart oG ou1 (by omega))
      have hBu1 := hx.size
      have hTu1 := Lib.hid (World.ownsRow.lt ou1)
      have y2 : Ext wl w9 := Ext.trans (by (repeat (first | exact Ext.refl _ | assumption | refine Ext.alloc ?_ _ | refine Ext.drewN ?_ _ | refine Ext.drew ?_ | refine Ext.setCell ?_ (by simp; try omega) _))) y
      replace oW := oW.ext y2
      replace ox0 := ox0.ext y2
      replace ox1 := ox1.ext y2
      replace oG := oG.ext y2
      replace i0 := i0.ext y2
      replace i1 := i1.ext y2
      replace bp0 := bp0.ext y2
      replace bx0 := bx0.ext y2
      replace hx := hx.trans y2
      have hszw9 : wl.heap.size ≤ w9.heap.size := y2.size
      clear y2 y
      have kbp0 := bp0.out
      have zbp0 := bp0.lt
      have kbx0 := bx0.out
      have zbx0 := bx0.lt
      have hx0 := hx.size
      go_wp2_with fail
      refine (eqIntS_c _ _ _ _ l1 l1 _ (ox1.ints.ext (by (repeat (first | exact Ext.refl _ | assumption | refine Ext.alloc ?_ _ | refine Ext.drewN ?_ _ | refine Ext.drew ?_ | refine Ext.setCell ?_ (by simp; try omega) _)))) (ou1.ints.ext (by (repeat (first | exact Ext.refl _ | assumption | refine Ext.alloc ?_ _ | refine Ext.drewN ?_ _ | refine Ext.drew ?_ | refine Ext.setCell ?_ (by simp; try omega) _)))) hs1 hs1).mono ?_
      rintro e w10 ⟨rfl, y⟩
      clear kbp0 zbp0
      clear kbx0 zbx0
      clear hx0
      have y2 : Ext w9 w10 := Ext.trans (by (repeat (first | exact Ext.refl _ | assumption | refine Ext.alloc ?_ _ | refine Ext.drewN ?_ _ | refine Ext.drew ?_ | refine Ext.setCell ?_ (by simp; try omega) _))) y
      replace oW := oW.ext y2
      replace ox0 := ox0.ext y2
      replace ox1 := ox1.ext y2
      replace oG := oG.ext y2
      replace ou1 := ou1.ext y2
      replace i0 := i0.ext y2
      replace i1 := i1.ext y2
      replace bp0 := bp0.ext y2
      replace bx0 := bx0.ext y2
      replace hx := hx.trans y2
      have hszw10 : w9.heap.size ≤ w10.heap.size := y2.size
      clear y2 y
      clear ou1
      have kbp0 := bp0.out
      have zbp0 := bp0.lt
      have kbx0 := bx0.out
      have zbx0 := bx0.lt
      have hx0 := hx.size
      go_wp2_with fail
      refine (markModel_c s0 p0 q0 _ _ _ _ _ l0 1 _ (ox0.ext (by (repeat (first | exact Ext.refl _ | assumption | refine Ext.alloc ?_ _ | refine Ext.drewN ?_ _ | refine Ext.drew ?_ | refine Ext.setCell ?_ (by simp; try omega) _)))) (by omega) (by omega) (by omega)).mono ?_
      rintro e w11 ⟨rfl, om, htch⟩
      clear kbp0 zbp0
      clear kbx0 zbx0
      clear hx0
      replace oW := (oW.ext (by (repeat (first | exact Ext.refl _ | assumption | refine Ext.alloc ?_ _ | refine Ext.drewN ?_ _ | refine Ext.drew ?_ | refine Ext.setCell ?_ (by simp; try omega) _)))).untouched htch (fun g hg' => by have h1 := hTW.out g hg'; omega)
      replace ox1 := (ox1.ext (by (repeat (first | exact Ext.refl _ | assumption | refine Ext.alloc ?_ _ | refine Ext.drewN ?_ _ | refine Ext.drew ?_ | refine Ext.setCell ?_ (by simp; try omega) _)))).untouched htch (fun g hg' => by have h1 := hTx1.out g hg'; omega)
      replace oG := (oG.ext (by (repeat (first | exact Ext.refl _ | assumption | refine Ext.alloc ?_ _ | refine Ext.drewN ?_ _ | refine Ext.drew ?_ | refine Ext.setCell ?_ (by simp; try omega) _)))).untouched htch (fun g hg' => by have h1 := hTG.out g hg'; omega)
      replace bp0 := (bp0.ext (by (repeat (first | exact Ext.refl _ | assumption | refine Ext.alloc ?_ _ | refine Ext.drewN ?_ _ | refine Ext.drew ?_ | refine Ext.setCell ?_ (by simp; try omega) _)))).untouched htch (by have := bp0.lt; omega)
      replace bx0 := (bx0.ext (by (repeat (first | exact Ext.refl _ | assumption | refine Ext.alloc ?_ _ | refine Ext.drewN ?_ _ | refine Ext.drew ?_ | refine Ext.setCell ?_ (by simp; try omega) _)))).untouched htch (by have := bx0.lt; omega)
      have y := htch.ext (hx.trans (by (repeat (first | exact Ext.refl _ | assumption | refine Ext.alloc ?_ _ | refine Ext.drewN ?_ _ | refine Ext.drew ?_ | refine Ext.setCell ?_ (by simp; try omega) _)))) (by omega)
      have hszw11 : w10.heap.size ≤ w11.heap.size := Nat.le_trans (Below.size (show Ext w10 _ from by (repeat (first | exact Ext.refl _ | assumption | refine Ext.alloc ?_ _ | refine Ext.drewN ?_ _ | refine Ext.drew ?_ | refine Ext.setCell ?_ (by simp; try omega) _)))) htch.size
      clear hx; have hx := y; clear y
      replace i0 := hl0.ext hx
      replace i1 := hl1.ext hx
      replace ox0 := om
      clear om htch
      have kbp0 := bp0.out
      have zbp0 := bp0.lt
      have kbx0 := bx0.out
      have zbx0 := bx0.lt
      have hx0 := hx.size
      go_wp2_with fail
      refine (markIntS_c _ _ _ _ _ (1 + (totTo l0 l0.length : Int)) _ (ox1.ext (by (repeat (first | exact Ext.refl _ | assumption | refine Ext.alloc ?_ _ | refine Ext.drewN ?_ _ | refine Ext.drew ?_ | refine Ext.setCell ?_ (by simp; try omega) _)))) (by omega) (by omega) (by omega)).mono ?_
      rintro e w12 ⟨rfl, om, hg⟩
      clear kbp0 zbp0
      clear kbx0 zbx0
      clear hx0
      have htch := Touched.of_grown hg hTx1.out
      replace oW := (oW.ext (by (repeat (first | exact Ext.refl _ | assumption | refine Ext.alloc ?_ _ | refine Ext.drewN ?_ _ | refine Ext.drew ?_ | refine Ext.setCell ?_ (by simp; try omega) _)))).untouched htch (fun g hg' => by have h1 := hTW.out g hg'; omega)
      replace ox0 := (ox0.ext (by (repeat (first | exact Ext.refl _ | assumption | refine Ext.alloc ?_ _ | refine Ext.drewN ?_ _ | refine Ext.drew ?_ | refine Ext.setCell ?_ (by simp; try omega) _)))).untouched htch (by omega)
      replace oG := (oG.ext (by (repeat (first | exact Ext.refl _ | assumption | refine Ext.alloc ?_ _ | refine Ext.drewN ?_ _ | refine Ext.drew ?_ | refine Ext.setCell ?_ (by simp; try omega) _)))).untouched htch (fun g hg' => by have h1 := hTG.out g hg'; omega)
      replace bp0 := (bp0.ext (by (repeat (first | exact Ext.refl _ | assumption | refine Ext.alloc ?_ _ | refine Ext.drewN ?_ _ | refine Ext.drew ?_ | refine Ext.setCell ?_ (by simp; try omega) _)))).untouched htch (by have := bp0.lt; omega)
      replace bx0 := (bx0.ext (by (repeat (first | exact Ext.refl _ | assumption | refine Ext.alloc ?_ _ | refine Ext.drewN ?_ _ | refine Ext.drew ?_ | refine Ext.setCell ?_ (by simp; try omega) _)))).untouched htch (by have := bx0.lt; omega)
      have y := htch.ext (hx.trans (by (repeat (first | exact Ext.refl _ | assumption | refine Ext.alloc ?_ _ | refine Ext.drewN ?_ _ | refine Ext.drew ?_ | refine Ext.setCell ?_ (by simp; try omega) _)))) (by omega)
      have hszw12 : w11.heap.size ≤ w12.heap.size := Nat.le_trans (Below.size (show Ext w11 _ from by (repeat (first | exact Ext.refl _ | assumption | refine Ext.alloc ?_ _ | refine Ext.drewN ?_ _ | refine Ext.drew ?_ | refine Ext.setCell ?_ (by simp; try omega) _)))) htch.size
      clear hx; have hx := y; clear y
      replace i0 := hl0.ext hx
      replace i1 := hl1.ext hx
      replace ox1 := om
      clear om htch hg
      have kbp0 := bp0.out
      have zbp0 := bp0.lt
      have kbx0 := bx0.out
      have zbx0 := bx0.lt
      have hx0 := hx.size
      go_wp2_with fail
      refine (eqIntS_c _ _ _ _ (traceF s0 p0 q0 l0 l1) (traceF s0 p0 q0 l0 l1) _ (oG.ints.ext (by (repeat (first | exact Ext.refl _ | assumption | refine Ext.alloc ?_ _ | refine Ext.drewN ?_ _ | refine Ext.drew ?_ | refine Ext.setCell ?_ (by simp; try omega) _)))) (oW.ints.ext (by (repeat (first | exact Ext.refl _ | assumption | refine Ext.alloc ?_ _ | refine Ext.drewN ?_ _ | refine Ext.drew ?_ | refine Ext.setCell ?_ (by simp; try omega) _)))) hFl2 hFl2).mono ?_
      rintro e w13 ⟨rfl, y⟩
      clear kbp0 zbp0
      clear kbx0 zbx0
      clear hx0
      have y2 : Ext w12 w13 := Ext.trans (by (repeat (first | exact Ext.refl _ | assumption | refine Ext.alloc ?_ _ | refine Ext.drewN ?_ _ | refine Ext.drew ?_ | refine Ext.setCell ?_ (by simp; try omega) _))) y
      replace oW := oW.ext y2
      replace ox0 := ox0.ext y2
      replace ox1 := ox1.ext y2
      replace oG := oG.ext y2
      replace i0 := i0.ext y2
      replace i1 := i1.ext y2
      replace bp0 := bp0.ext y2
      replace bx0 := bx0.ext y2
      replace hx := hx.trans y2
      have hszw13 : w12.heap.size ≤ w13.heap.size := y2.size
      clear y2 y
      have kbp0 := bp0.out
      have zbp0 := bp0.lt
      have kbx0 := bx0.out
      have zbx0 := bx0.lt
      have hx0 := hx.size
      go_wp2_with fail
      refine (markIntS_c _ _ _ _ _ 1 _ (oG.ext (by (repeat (first | exact Ext.refl _ | assumption | refine Ext.alloc ?_ _ | refine Ext.drewN ?_ _ | refine Ext.drew ?_ | refine Ext.setCell ?_ (by simp; try omega) _)))) (by omega) (by omega) (by omega)).mono ?_
      rintro e w14 ⟨rfl, om, hg⟩
      clear kbp0 zbp0
      clear kbx0 zbx0
      clear hx0
      have htch := Touched.of_grown hg hTG.out
      replace oW := (oW.ext (by (repeat (first | exact Ext.refl _ | assumption | refine Ext.alloc ?_ _ | refine Ext.drewN ?_ _ | refine Ext.drew ?_ | refine Ext.setCell ?_ (by simp; try omega) _)))).untouched htch (fun g hg' => by have h1 := hTW.out g hg'; omega)
      replace ox0 := (ox0.ext (by (repeat (first | exact Ext.refl _ | assumption | refine Ext.alloc ?_ _ | refine Ext.drewN ?_ _ | refine Ext.drew ?_ | refine Ext.setCell ?_ (by simp; try omega) _)))).untouched htch (by omega)
      replace ox1 := (ox1.ext (by (repeat (first | exact Ext.refl _ | assumption | refine Ext.alloc ?_ _ | refine Ext.drewN ?_ _ | refine Ext.drew ?_ | refine Ext.setCell ?_ (by simp; try omega) _)))).untouched htch (fun g hg' => by have h1 := hTx1.out g hg'; omega)
      replace bp0 := (bp0.ext (by (repeat (first | exact Ext.refl _ | assumption | refine Ext.alloc ?_ _ | refine Ext.drewN ?_ _ | refine Ext.drew ?_ | refine Ext.setCell ?_ (by simp; try omega) _)))).untouched htch (by have := bp0.lt; omega)
      replace bx0 := (bx0.ext (by (repeat (first | exact Ext.refl _ | assumption | refine Ext.alloc ?_ _ | refine Ext.drewN ?_ _ | refine Ext.drew ?_ | refine Ext.setCell ?_ (by simp; try omega) _)))).untouched htch (by have := bx0.lt; omega)
      have y := htch.ext (hx.trans (by (repeat (first | exact Ext.refl _ | assumption | refine Ext.alloc ?_ _ | refine Ext.drewN ?_ _ | refine Ext.drew ?_ | refine Ext.setCell ?_ (by simp; try omega) _)))) (by omega)
      have hszw14 : w13.heap.size ≤ w14.heap.size := Nat.le_trans (Below.size (show Ext w13 _ from by (repeat (first | exact Ext.refl _ | assumption | refine Ext.alloc ?_ _ | refine Ext.drewN ?_ _ | refine Ext.drew ?_ | refine Ext.setCell ?_ (by simp; try omega) _)))) htch.size
      clear hx; have hx := y; clear y
      replace i0 := hl0.ext hx
      replace i1 := hl1.ext hx
      replace oG := om
      clear om htch hg
      have kbp0 := bp0.out
      have zbp0 := bp0.lt
      have kbx0 := bx0.out
      have zbx0 := bx0.lt
      have hx0 := hx.size
      go_wp2_with fail
      refine (heldIntS_c _ _ _ 1 _ oG.ints (by omega) (by omega) (by omega)).mono ?_
      rintro e w15 ⟨rfl, rfl⟩
      clear kbp0 zbp0
      clear kbx0 zbx0
      clear hx0
      have kbp0 := bp0.out
      have zbp0 := bp0.lt
      have kbx0 := bx0.out
      have zbx0 := bx0.lt
      have hx0 := hx.size
      go_wp2_with fail
      refine (toModel_c s0 p0 q0 a0 c0 l0 _ (i0.ext (by (repeat (first | exact Ext.refl _ | assumption | refine Ext.alloc ?_ _ | refine Ext.drewN ?_ _ | refine Ext.drew ?_ | refine Ext.setCell ?_ (by simp; try omega) _)))) hb0 HM0.out).mono ?_
      rintro e w16 ⟨vz0, rfl, oz0, y⟩
      clear kbp0 zbp0
      clear kbx0 zbx0
      clear hx0
      obtain ⟨az0, cz0, rfl⟩ := oz0.shape
      replace oz0 := OwnR.mono (B' := w14.heap.size + 0) oz0 (by simp) (Nat.le_refl _) (OwnRk.top oz0)
      have hBz0 := hx.size
      have hTz0 := oz0.top'
      have y2 : Ext w14 w16 := Ext.trans (by (repeat (first | exact Ext.refl _ | assumption | refine Ext.alloc ?_ _ | refine Ext.drewN ?_ _ | refine Ext.drew ?_ | refine Ext.setCell ?_ (by simp; try omega) _))) y
      replace oW := oW.ext y2
      replace ox0 := ox0.ext y2
      replace ox1 := ox1.ext y2
      replace oG := oG.ext y2
      replace i0 := i0.ext y2
      replace i1 := i1.ext y2
      replace bp0 := bp0.ext y2
      replace bx0 := bx0.ext y2
      replace hx := hx.trans y2
      have hszw16 : w14.heap.size ≤ w16.heap.size := y2.size
      clear y2 y
      have kbp0 := bp0.out
      have zbp0 := bp0.lt
      have kbx0 := bx0.out
      have zbx0 := bx0.lt
      have hx0 := hx.size
      go_wp2_with fail
      refine (toIntS_c a1 c1 l1 _ (i1.ext (by (repeat (first | exact Ext.refl _ | assumption | refine Ext.alloc ?_ _ | refine Ext.drewN ?_ _ | refine Ext.drew ?_ | refine Ext.setCell ?_ (by simp; try omega) _)))) (by omega)).mono ?_
      rintro e w17 ⟨vz1, rfl, oz1, y⟩
      clear kbp0 zbp0
      clear kbx0 zbx0
      clear hx0
      obtain ⟨az1, cz1, rfl, -⟩ := oz1.shape
      replace oz1 := oz1.mono (Below.size (show Ext w16 _ from by (repeat (first | exact Ext.refl _ | assumption | refine Ext.alloc ?_ _ | refine Ext.drewN ?_ _ | refine Ext.drew ?_ | refine Ext.setCell ?_ (by simp; try omega) _))))
      have apWz1 := Lib.hid (own_apart oW oz1 (by omega))
      have apx1z1 := Lib.hid (own_apart ox1 oz1 (by omega))
      have apGz1 := Lib.hid (own_apart oG oz1 (by omega))
      have hBz1 := hx.size
      have hTz1 := Lib.hid (World.ownsRow.lt oz1)
      have y2 : Ext w16 w17 := Ext.trans (by (repeat (first | exact Ext.refl _ | assumption | refine Ext.alloc ?_ _ | refine Ext.drewN ?_ _ | refine Ext.drew ?_ | refine Ext.setCell ?_ (by simp; try omega) _))) y
      replace oW := oW.ext y2
      replace ox0 := ox0.ext y2
      replace ox1 := ox1.ext y2
      replace oG := oG.ext y2
      replace oz0 := oz0.ext y2
      replace i0 := i0.ext y2
      replace i1 := i1.ext y2
      replace bp0 := bp0.ext y2
      replace bx0 := bx0.ext y2
      replace hx := hx.trans y2
      have hszw17 : w16.heap.size ≤ w17.heap.size := y2.size
      clear y2 y
      have kbp0 := bp0.out
      have zbp0 := bp0.lt
      have kbx0 := bx0.out
      have zbx0 := bx0.lt
      have hx0 := hx.size
      go_wp2_with fail
      refine (iTraceRows_c s0 p0 q0 az0 cz0 l0 az1 cz1 l1 _ (oz0.rows.ext (by (repeat (first | exact Ext.refl _ | assumption | refine Ext.alloc ?_ _ | refine Ext.drewN ?_ _ | refine Ext.drew ?_ | refine Ext.setCell ?_ (by simp; try omega) _)))) hb0 HM0.out (oz1.ints.ext (by (repeat (first | exact Ext.refl _ | assumption | refine Ext.alloc ?_ _ | refine Ext.drewN ?_ _ | refine Ext.drew ?_ | refine Ext.setCell ?_ (by simp; try omega) _)))) hb1).mono ?_
      rintro e w18 ⟨vH, rfl, oH, y⟩
      clear kbp0 zbp0
      clear kbx0 zbx0
      clear hx0
      obtain ⟨aH, cH, rfl, -⟩ := oH.shape
      replace oH := oH.mono (Below.size (show Ext w17 _ from by (repeat (first | exact Ext.refl _ | assumption | refine Ext.alloc ?_ _ | refine Ext.drewN ?_ _ | refine Ext.drew ?_ | refine Ext.setCell ?_ (by simp; try omega) _))))
      have apWH := Lib.hid (own_apart oW oH (by omega))
      have apx1H := Lib.hid (own_apart ox1 oH (by omega))
      have apGH := Lib.hid (own_apart oG oH (by omega))
      have apz1H := Lib.hid (own_apart oz1 oH (by omega))
      have hBH := hx.size
      have hTH := Lib.hid (World.ownsRow.lt oH)
      have y2 : Ext w17 w18 := Ext.trans (by (repeat (first | exact Ext.refl _ | assumption | refine Ext.alloc ?_ _ | refine Ext.drewN ?_ _ | refine Ext.drew ?_ | refine Ext.setCell ?_ (by simp; try omega) _))) y
      replace oW := oW.ext y2
      replace ox0 := ox0.ext y2
      replace ox1 := ox1.ext y2
      replace oG := oG.ext y2
      replace oz0 := oz0.ext y2
      replace oz1 := oz1.ext y2
      replace i0 := i0.ext y2
      replace i1 := i1.ext y2
      replace bp0 := bp0.ext y2
      replace bx0 := bx0.ext y2
      replace hx := hx.trans y2
      have hszw18 : w17.heap.size ≤ w18.heap.size := y2.size
      clear y2 y
      clear oz0
      clear oz1
      have kbp0 := bp0.out
      have zbp0 := bp0.lt
      have kbx0 := bx0.out
      have zbx0 := bx0.lt
      have hx0 := hx.size
      go_wp2_with fail
      refine (eqIntS_c _ _ _ _ (traceF s0 p0 q0 l0 l1) (traceF s0 p0 q0 l0 l1) _ (oH.ints.ext (by (repeat (first | exact Ext.refl _ | assumption | refine Ext.alloc ?_ _ | refine Ext.drewN ?_ _ | refine Ext.drew ?_ | refine Ext.setCell ?_ (by simp; try omega) _)))) (oW.ints.ext (by (repeat (first | exact Ext.refl _ | assumption | refine Ext.alloc ?_ _ | refine Ext.drewN ?_ _ | refine Ext.drew ?_ | refine Ext.setCell ?_ (by simp; try omega) _)))) hFl2 hFl2).mono ?_
      rintro e w19 ⟨rfl, y⟩
      clear kbp0 zbp0
      clear kbx0 zbx0
      clear hx0
      have y2 : Ext w18 w19 := Ext.trans (by (repeat (first | exact Ext.refl _ | assumption | refine Ext.alloc ?_ _ | refine Ext.drewN ?_ _ | refine Ext.drew ?_ | refine Ext.setCell ?_ (by simp; try omega) _))) y
      replace oW := oW.ext y2
      replace ox0 := ox0.ext y2
      replace ox1 := ox1.ext y2
      replace oG := oG.ext y2
      replace oH := oH.ext y2
      replace i0 := i0.ext y2
      replace i1 := i1.ext y2
      replace bp0 := bp0.ext y2
      replace bx0 := bx0.ext y2
      replace hx := hx.trans y2
      have hszw19 : w18.heap.size ≤ w19.heap.size := y2.size
      clear y2 y
      have kbp0 := bp0.out
      have zbp0 := bp0.lt
      have kbx0 := bx0.out
      have zbx0 := bx0.lt
      have hx0 := hx.size
      go_wp2_with fail
      refine (heldIntS_c _ _ _ 1 _ oG.ints (by omega) (by omega) (by omega)).mono ?_
      rintro e w20 ⟨rfl, rfl⟩
      clear kbp0 zbp0
      clear kbx0 zbx0
      clear hx0
      go_wp2
      go_ret
      exact ⟨rfl, hx⟩
  · go_enter Try.func4, Try.ntmps4
    go_wp2
    go_ret
    exact ⟨rfl, by (repeat (first | exact Ext.refl _ | assumption | refine Ext.alloc ?_ _ | refine Ext.drewN ?_ _ | refine Ext.drew ?_ | refine Ext.setCell ?_ (by simp; try omega) _))⟩
end Go.Proofs.Ytgpfebpjiddjjaa
