/- For all arguments: the program's CodeRunF answers what the reference's does, leaves its arguments alone, and shares no memory (FnExactCodeRun). -/
import Derived.Test.YtgpfebpjiddjjaaDoorCr
namespace Go.Proofs.YtgpfebpjiddjjaaDoor
set_option linter.unusedVariables false
open Go.RowKit Go.Kt

set_option maxRecDepth 100000 in
set_option maxHeartbeats 400000 in
theorem fnExactCodeRun_c (s0 p0 q0 : Int) (a0 : Option Addr) (c0 : Nat) (l0 : List (List Int)) (a1 : Option Addr) (m1 c1 : Nat) (l1 : List Int) (n2 : Int) (w : World) (hl0 : RowsAt w a0 l0) (hlen0 : l0.length ≤ 9223372036854775807) (hrow0 : ∀ i, i < l0.length → (rowI l0 i).length ≤ 9223372036854775807) (hl1 : FlatAt w a1 m1 l1) (hlen1 : m1 ≤ 9223372036854775807) (ht : TabW w) :
    Calls Tryd.prog 3 #[modelV s0 p0 q0 a0 l0.length c0, .slice a1 m1 c1, .int .i64 n2] w fun e w' => e = .returned (.bool true) ∧ Ext w w' := by
  have i0 := hl0
  have i1 := hl1
  have hqF : ((crF s0 p0 q0 l0 m1 l1 n2).1 != (crF s0 p0 q0 l0 m1 l1 n2).1) = false := by simp
  have hqG : ((crF s0 p0 q0 l0 m1 l1 n2).2 != (crF s0 p0 q0 l0 m1 l1 n2).2) = false := by simp
  have hx := Ext.refl w
  have HTB := Lib.hid ht; clear ht
  go_enter Tryd.func3, Tryd.ntmps3
  go_wp2_with fail
  refine (szModel_c s0 p0 q0 a0 c0 l0 1048576 _ (i0.ext (by (repeat (first | exact Ext.refl _ | assumption | refine Ext.alloc ?_ _ | refine Ext.drewN ?_ _ | refine Ext.drew ?_ | refine Ext.setCell ?_ (by simp; try omega) _)))) hlen0 hrow0 (by omega) (by omega)).mono ?_
  rintro e w1 ⟨r0, rfl, hfit0, y⟩
  have bp0 : BoxM w1 (w.heap.size) s0 p0 q0 (.slice a0 l0.length c0) := BoxM.ext (by simp [BoxM, go_sem]) y
  have hltbp0 := bp0.lt
  have y2 : Ext w w1 := Ext.trans (by (repeat (first | exact Ext.refl _ | assumption | refine Ext.alloc ?_ _ | refine Ext.drewN ?_ _ | refine Ext.drew ?_ | refine Ext.setCell ?_ (by simp; try omega) _))) y
  replace i0 := i0.ext y2
  replace i1 := i1.ext y2
  replace hx := hx.trans y2
  have hszw1 : w.heap.size ≤ w1.heap.size := y2.size
  clear y2 y
  by_cases hr0 : r0 < 0
  · go_wp2
    go_ret
    exact ⟨rfl, hx⟩
  · have hrle0 := hfit0.1
    have hft0 := hfit0.2 (by omega)
    have hb0 : l0.length ≤ 4194304 := by omega
    have htot0 : totTo l0 l0.length ≤ 1048576 := by omega
    have hm0 : ∀ i, i < l0.length → (rowI l0 i).length ≤ 4194304 := fun i hi => by have := totTo_row l0 i l0.length hi; omega
    have HM0 := Lib.hid hm0
    have HW0 : Hid (∀ i, i < l0.length → (rowI l0 i).length ≤ 4611686018427387904) := fun i hi => by have := hm0 i hi; omega
    clear hm0 hfit0 hrow0
    by_cases hr1 : (m1 : Int) ≤ r0
    · go_wp2_with fail
      refine (szInsS_c a1 c1 m1 r0 _ hlen1 (by omega) (by omega)).mono ?_
      rw [if_pos hr1]
      rintro e w2 ⟨rfl, rfl⟩
      have hb1 : m1 ≤ 4194304 := by omega
      have hs1 : m1 ≤ 4611686018427387904 := by omega
      have kbp0 := bp0.out
      have zbp0 := bp0.lt
      have hx0 := hx.size
      go_wp2_with fail
      refine (toModel_c s0 p0 q0 a0 c0 l0 _ (i0.ext (by (repeat (first | exact Ext.refl _ | assumption | refine Ext.alloc ?_ _ | refine Ext.drewN ?_ _ | refine Ext.drew ?_ | refine Ext.setCell ?_ (by simp; try omega) _)))) hb0 HM0.out).mono ?_
      rintro e w2 ⟨vt0, rfl, ot0, y⟩
      clear kbp0 zbp0
      clear hx0
      obtain ⟨at0, ct0, rfl⟩ := ot0.shape
      replace ot0 := OwnR.mono (B' := w1.heap.size + 0) ot0 (by simp) (Nat.le_refl _) (OwnRk.top ot0)
      have hBt0 := hx.size
      have hTt0 := ot0.top'
      have y2 : Ext w1 w2 := Ext.trans (by (repeat (first | exact Ext.refl _ | assumption | refine Ext.alloc ?_ _ | refine Ext.drewN ?_ _ | refine Ext.drew ?_ | refine Ext.setCell ?_ (by simp; try omega) _))) y
      replace i0 := i0.ext y2
      replace i1 := i1.ext y2
      replace bp0 := bp0.ext y2
      replace hx := hx.trans y2
      have hszw2 : w1.heap.size ≤ w2.heap.size := y2.size
      clear y2 y
      have kbp0 := bp0.out
      have zbp0 := bp0.lt
      have hx0 := hx.size
      go_wp2_with fail
      refine (toInsS_c a1 m1 c1 l1 _ (i1.ext (by (repeat (first | exact Ext.refl _ | assumption | refine Ext.alloc ?_ _ | refine Ext.drewN ?_ _ | refine Ext.drew ?_ | refine Ext.setCell ?_ (by simp; try omega) _)))) (by omega)).mono ?_
      rintro e w3 ⟨vt1, rfl, ot1, y⟩
      clear kbp0 zbp0
      clear hx0
      obtain ⟨at1, ct1, rfl, -⟩ := ot1.shape
      replace ot1 := ot1.mono (Below.size (show Ext w2 _ from by (repeat (first | exact Ext.refl _ | assumption | refine Ext.alloc ?_ _ | refine Ext.drewN ?_ _ | refine Ext.drew ?_ | refine Ext.setCell ?_ (by simp; try omega) _))))
      have hBt1 := hx.size
      have hTt1 := Lib.hid (World.ownsRow.lt ot1)
      have y2 : Ext w2 w3 := Ext.trans (by (repeat (first | exact Ext.refl _ | assumption | refine Ext.alloc ?_ _ | refine Ext.drewN ?_ _ | refine Ext.drew ?_ | refine Ext.setCell ?_ (by simp; try omega) _))) y
      replace ot0 := ot0.ext y2
      replace i0 := i0.ext y2
      replace i1 := i1.ext y2
      replace bp0 := bp0.ext y2
      replace hx := hx.trans y2
      have hszw3 : w2.heap.size ≤ w3.heap.size := y2.size
      clear y2 y
      have kbp0 := bp0.out
      have zbp0 := bp0.lt
      have hx0 := hx.size
      go_wp2_with fail
      refine (sCodeRunF_c s0 p0 q0 at0 ct0 l0 at1 m1 ct1 l1 n2 _ (ot0.rows.ext (by (repeat (first | exact Ext.refl _ | assumption | refine Ext.alloc ?_ _ | refine Ext.drewN ?_ _ | refine Ext.drew ?_ | refine Ext.setCell ?_ (by simp; try omega) _)))) hb0 HM0.out (ot1.flat.ext (by (repeat (first | exact Ext.refl _ | assumption | refine Ext.alloc ?_ _ | refine Ext.drewN ?_ _ | refine Ext.drew ?_ | refine Ext.setCell ?_ (by simp; try omega) _)))) hb1).mono ?_
      rintro e w4 ⟨rfl, y⟩
      clear kbp0 zbp0
      clear hx0
      have y2 : Ext w3 w4 := Ext.trans (by (repeat (first | exact Ext.refl _ | assumption | refine Ext.alloc ?_ _ | refine Ext.drewN ?_ _ | refine Ext.drew ?_ | refine Ext.setCell ?_ (by simp; try omega) _))) y
      replace ot0 := ot0.ext y2
      replace ot1 := ot1.ext y2
      replace i0 := i0.ext y2
      replace i1 := i1.ext y2
      replace bp0 := bp0.ext y2
      replace hx := hx.trans y2
      have hszw4 : w3.heap.size ≤ w4.heap.size := y2.size
      clear y2 y
      clear ot0
      clear ot1
      have kbp0 := bp0.out
      have zbp0 := bp0.lt
      have hx0 := hx.size
      go_wp2_with fail
      refine (toModel_c s0 p0 q0 a0 c0 l0 _ (i0.ext (by (repeat (first | exact Ext.refl _ | assumption | refine Ext.alloc ?_ _ | refine Ext.drewN ?_ _ | refine Ext.drew ?_ | refine Ext.setCell ?_ (by simp; try omega) _)))) hb0 HM0.out).mono ?_
      rintro e w5 ⟨vx0, rfl, ox0, y⟩
      clear kbp0 zbp0
      clear hx0
      obtain ⟨ax0, cx0, rfl⟩ := ox0.shape
      replace ox0 := OwnR.mono (B' := w4.heap.size + 0) ox0 (by simp) (Nat.le_refl _) (OwnRk.top ox0)
      have hBx0 := hx.size
      have hTx0 := ox0.top'
      have y2 : Ext w4 w5 := Ext.trans (by (repeat (first | exact Ext.refl _ | assumption | refine Ext.alloc ?_ _ | refine Ext.drewN ?_ _ | refine Ext.drew ?_ | refine Ext.setCell ?_ (by simp; try omega) _))) y
      replace i0 := i0.ext y2
      replace i1 := i1.ext y2
      replace bp0 := bp0.ext y2
      replace hx := hx.trans y2
      have hszw5 : w4.heap.size ≤ w5.heap.size := y2.size
      clear y2 y
      have kbp0 := bp0.out
      have zbp0 := bp0.lt
      have hx0 := hx.size
      go_wp2_with fail
      refine (toInsS_c a1 m1 c1 l1 _ (i1.ext (by (repeat (first | exact Ext.refl _ | assumption | refine Ext.alloc ?_ _ | refine Ext.drewN ?_ _ | refine Ext.drew ?_ | refine Ext.setCell ?_ (by simp; try omega) _)))) (by omega)).mono ?_
      rintro e w6 ⟨vx1, rfl, ox1, y⟩
      clear kbp0 zbp0
      clear hx0
      obtain ⟨ax1, cx1, rfl, -⟩ := ox1.shape
      replace ox1 := ox1.mono (B' := w5.heap.size + 1) (by simp)
      have hBx1 := hx.size
      have hTx1 := Lib.hid (World.ownsRow.lt ox1)
      have bx0 : BoxM w6 (w5.heap.size) s0 p0 q0 (.slice ax0 l0.length cx0) := BoxM.ext (by simp [BoxM, go_sem]) y
      have hltbx0 := bx0.lt
      have y2 : Ext w5 w6 := Ext.trans (by (repeat (first | exact Ext.refl _ | assumption | refine Ext.alloc ?_ _ | refine Ext.drewN ?_ _ | refine Ext.drew ?_ | refine Ext.setCell ?_ (by simp; try omega) _))) y
      replace ox0 := ox0.ext y2
      replace i0 := i0.ext y2
      replace i1 := i1.ext y2
      replace bp0 := bp0.ext y2
      replace hx := hx.trans y2
      have hszw6 : w5.heap.size ≤ w6.heap.size := y2.size
      clear y2 y
      have kbp0 := bp0.out
      have zbp0 := bp0.lt
      have kbx0 := bx0.out
      have zbx0 := bx0.lt
      have hx0 := hx.size
      go_wp2_with fail
      refine (iCodeRunF_c s0 p0 q0 ax0 cx0 l0 ax1 m1 cx1 l1 n2 _ (ox0.rows.ext (by (repeat (first | exact Ext.refl _ | assumption | refine Ext.alloc ?_ _ | refine Ext.drewN ?_ _ | refine Ext.drew ?_ | refine Ext.setCell ?_ (by simp; try omega) _)))) hb0 HM0.out (ox1.flat.ext (by (repeat (first | exact Ext.refl _ | assumption | refine Ext.alloc ?_ _ | refine Ext.drewN ?_ _ | refine Ext.drew ?_ | refine Ext.setCell ?_ (by simp; try omega) _)))) hb1 (HTB.out.ext (hx.trans (by (repeat (first | exact Ext.refl _ | assumption | refine Ext.alloc ?_ _ | refine Ext.drewN ?_ _ | refine Ext.drew ?_ | refine Ext.setCell ?_ (by simp; try omega) _)))))).mono ?_
      rintro e w7 ⟨rfl, y⟩
      clear kbp0 zbp0
      clear kbx0 zbx0
      clear hx0
      have y2 : Ext w6 w7 := Ext.trans (by (repeat (first | exact Ext.refl _ | assumption | refine Ext.alloc ?_ _ | refine Ext.drewN ?_ _ | refine Ext.drew ?_ | refine Ext.setCell ?_ (by simp; try omega) _))) y
      replace ox0 := ox0.ext y2
      replace ox1 := ox1.ext y2
      replace i0 := i0.ext y2
      replace i1 := i1.ext y2
      replace bp0 := bp0.ext y2
      replace bx0 := bx0.ext y2
      replace hx := hx.trans y2
      have hszw7 : w6.heap.size ≤ w7.heap.size := y2.size
      clear y2 y
      have kbp0 := bp0.out
      have zbp0 := bp0.lt
      have kbx0 := bx0.out
      have zbx0 := bx0.lt
      have hx0 := hx.size
      go_wp2_with fail
      have bpk := bp0
      have bxk := bx0
      have hik := i0
      have hok := ox0.rows
      have hek : Ext w7 w7 := Ext.refl _
      have HEK := Lib.hid hek
      clear hek
      have HBK := Lib.hid bxk; have HPK := Lib.hid bpk; clear bxk bpk
      go_region_held3 (fun w' => w'.cell? ⟨w5.heap.size, 0, none⟩ = some (.int .i64 s0) ∧ w'.cell? ⟨w5.heap.size, 1, none⟩ = some (.int .i64 p0) ∧ w'.cell? ⟨w5.heap.size, 2, none⟩ = some (.int .i64 q0) ∧ w'.cell? ⟨w5.heap.size, 3, none⟩ = some (.slice ax0 l0.length cx0) ∧ w'.cell? ⟨w.heap.size, 0, none⟩ = some (.int .i64 s0) ∧ w'.cell? ⟨w.heap.size, 1, none⟩ = some (.int .i64 p0) ∧ w'.cell? ⟨w.heap.size, 2, none⟩ = some (.int .i64 q0) ∧ w'.cell? ⟨w.heap.size, 3, none⟩ = some (.slice a0 l0.length c0))
        (first
          | go_keep
          | (have hk1 := HBK.out.ext (Ext.trans (Ext.drew (Ext.refl _)) yk); have hk2 := HPK.out.ext (Ext.trans (Ext.drew (Ext.refl _)) yk); exact ⟨hk1.1, hk1.2.1, hk1.2.2.1, hk1.2.2.2, hk2.1, hk2.2.1, hk2.2.2.1, hk2.2.2.2⟩)
          | (have hk1 := HBK.out.ext (Ext.trans (Ext.trans (Ext.drew (Ext.refl _)) yk) yl); have hk2 := HPK.out.ext (Ext.trans (Ext.trans (Ext.drew (Ext.refl _)) yk) yl); exact ⟨hk1.1, hk1.2.1, hk1.2.2.1, hk1.2.2.2, hk2.1, hk2.2.1, hk2.2.2.1, hk2.2.2.2⟩))
        ((first
          | (go_at_call 9; refine (toModel_c s0 p0 q0 a0 c0 l0 _ (hik.ext (by (repeat (first | exact Ext.refl _ | assumption | refine Ext.alloc ?_ _ | refine Ext.drewN ?_ _ | refine Ext.drew ?_ | refine Ext.setCell ?_ (by simp; try omega) _)))) hb0 HM0.out).mono ?_; rintro e wk ⟨vk, rfl, ok, yk⟩; obtain ⟨ak, ck, rfl⟩ := ok.shape)
          | (go_at_call 12; refine (eqModel_c s0 p0 q0 _ _ _ _ l0 _ (hok.ext (Ext.trans (by (repeat (first | exact Ext.refl _ | assumption | refine Ext.alloc ?_ _ | refine Ext.drewN ?_ _ | refine Ext.drew ?_ | refine Ext.setCell ?_ (by simp; try omega) _))) yk)) (ok.rows.ext (by (repeat (first | exact Ext.refl _ | assumption | refine Ext.alloc ?_ _ | refine Ext.drewN ?_ _ | refine Ext.drew ?_ | refine Ext.setCell ?_ (by simp; try omega) _)))) (by omega) HW0.out).mono ?_; rintro e wl ⟨rfl, yl⟩)))
      have y3 : Ext w7 wl := Ext.trans (Ext.trans (by (repeat (first | exact Ext.refl _ | assumption | refine Ext.alloc ?_ _ | refine Ext.drewN ?_ _ | refine Ext.drew ?_ | refine Ext.setCell ?_ (by simp; try omega) _)) : Ext w7 _) yk) (Ext.trans (by (repeat (first | exact Ext.refl _ | assumption | refine Ext.alloc ?_ _ | refine Ext.drewN ?_ _ | refine Ext.drew ?_ | refine Ext.setCell ?_ (by simp; try omega) _))) yl)
      replace hx := hx.trans y3
      have hszl : w7.heap.size ≤ wl.heap.size := y3.size
      clear kbp0 zbp0
      clear kbx0 zbx0
      clear hx0
      replace ox0 := ox0.ext y3
      replace ox1 := ox1.ext y3
      replace i0 := i0.ext y3
      replace i1 := i1.ext y3
      replace bp0 := bp0.ext y3
      replace bx0 := bx0.ext y3
      clear y3
      clear yk yl ok hik hok HBK HPK HEK
      have kbp0 := bp0.out
      have zbp0 := bp0.lt
      have kbx0 := bx0.out
      have zbx0 := bx0.lt
      have hx0 := hx.size
      go_wp2_with fail
      refine (toInsS_c a1 m1 c1 l1 _ (i1.ext (by (repeat (first | exact Ext.refl _ | assumption | refine Ext.alloc ?_ _ | refine Ext.drewN ?_ _ | refine Ext.drew ?_ | refine Ext.setCell ?_ (by simp; try omega) _)))) (by omega)).mono ?_
      rintro e w8 ⟨vu1, rfl, ou1, y⟩
      clear kbp0 zbp0
      clear kbx0 zbx0
      clear hx0
      obtain ⟨au1, cu1, rfl, -⟩ := ou1.shape
      replace ou1 := ou1.mono (Below.size (show Ext wl _ from by (repeat (first | exact Ext.refl _ | assumption | refine Ext.alloc ?_ _ | refine Ext.drewN ?_ _ | refine Ext.drew ?_ | refine Ext.setCell ?_ (by simp; try omega) _))))
      have apx1u1 := Lib.hid (own_apart ox1 ou1 (by omega))
      have hBu1 := hx.size
      have hTu1 := Lib.hid (World.ownsRow.lt ou1)
      have y2 : Ext wl w8 := Ext.trans (by (repeat (first | exact Ext.refl _ | assumption | refine Ext.alloc ?_ _ | refine Ext.drewN ?_ _ | refine Ext.drew ?_ | refine Ext.setCell ?_ (by simp; try omega) _))) y
      replace ox0 := ox0.ext y2
      replace ox1 := ox1.ext y2
      replace i0 := i0.ext y2
      replace i1 := i1.ext y2
      replace bp0 := bp0.ext y2
      replace bx0 := bx0.ext y2
      replace hx := hx.trans y2
      have hszw8 : wl.heap.size ≤ w8.heap.size := y2.size
      clear y2 y
      have kbp0 := bp0.out
      have zbp0 := bp0.lt
      have kbx0 := bx0.out
      have zbx0 := bx0.lt
      have hx0 := hx.size
      go_wp2_with fail
      refine (eqInsS_c _ _ m1 _ _ l1 _ (ox1.flat.ext (by (repeat (first | exact Ext.refl _ | assumption | refine Ext.alloc ?_ _ | refine Ext.drewN ?_ _ | refine Ext.drew ?_ | refine Ext.setCell ?_ (by simp; try omega) _)))) (ou1.flat.ext (by (repeat (first | exact Ext.refl _ | assumption | refine Ext.alloc ?_ _ | refine Ext.drewN ?_ _ | refine Ext.drew ?_ | refine Ext.setCell ?_ (by simp; try omega) _)))) hs1).mono ?_
      rintro e w9 ⟨rfl, y⟩
      clear kbp0 zbp0
      clear kbx0 zbx0
      clear hx0
      have y2 : Ext w8 w9 := Ext.trans (by (repeat (first | exact Ext.refl _ | assumption | refine Ext.alloc ?_ _ | refine Ext.drewN ?_ _ | refine Ext.drew ?_ | refine Ext.setCell ?_ (by simp; try omega) _))) y
      replace ox0 := ox0.ext y2
      replace ox1 := ox1.ext y2
      replace ou1 := ou1.ext y2
      replace i0 := i0.ext y2
      replace i1 := i1.ext y2
      replace bp0 := bp0.ext y2
      replace bx0 := bx0.ext y2
      replace hx := hx.trans y2
      have hszw9 : w8.heap.size ≤ w9.heap.size := y2.size
      clear y2 y
      clear ou1
      go_wp2
      go_ret
      exact ⟨rfl, hx⟩
    · go_wp2_with fail
      refine (szInsS_c a1 c1 m1 r0 _ hlen1 (by omega) (by omega)).mono ?_
      rw [if_neg (by omega)]
      rintro e w2 ⟨rfl, rfl⟩
      go_wp2
      go_ret
      exact ⟨rfl, hx⟩
end Go.Proofs.YtgpfebpjiddjjaaDoor
