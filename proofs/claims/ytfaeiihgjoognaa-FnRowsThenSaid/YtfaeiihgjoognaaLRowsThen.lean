/- For all bytes: of rows drawn from them, one behind the other, brackets do not matter (FnRowsThen). -/
import Derived.Test.YtfaeiihgjoognaaU
namespace Go.Proofs.Ytfaeiihgjoognaa
set_option linter.unusedVariables false
open Go.RowKit Go.Kt

set_option maxHeartbeats 3200000 in
theorem fnRowsThen_c (a0 : Option Addr) (c0 : Nat) (l0 : List Int) (a9 : Option Addr) (c9 : Nat) (l9 : List Int) (w : World) (h0 : BytesAt w a0 l0) (hlen0 : l0.length ≤ 9223372036854775807) (hcap0 : l0.length ≤ c0)
    (h9 : BytesAt w a9 l9) (hlen9 : l9.length ≤ 9223372036854775807) (hcap9 : l9.length ≤ c9) :
    Calls Try.prog 15 #[.slice a0 l0.length c0, .slice a9 l9.length c9] w fun e w' => e = .returned (.bool true) ∧ Ext w w' := by
  by_cases hb : l0.length ≤ 1048576
  · by_cases hb9 : l9.length ≤ 1048576
    · go_enter Try.func15, Try.ntmps15
      go_wp2_with fail
      refine (drawRowsThen_c a0 c0 l0 _ h0 hb hcap0).mono ?_
      rintro e w1 ⟨s, v1, v2, A, B, rfl, hs, o1, o2, hA, hB, hx⟩
      obtain ⟨aA, cA, rfl, i1⟩ := o1.shape
      obtain ⟨aB, cB, rfl, i2⟩ := o2.shape
      clear o1 o2
      go_wp2_with fail
      refine (iRowsThen_c s aA aB cA cB A B _ i1 i2 (by omega) (by omega)).mono ?_
      rintro e w2 ⟨vx, rfl, ox, yx⟩
      obtain ⟨ax, cx, rfl, ix⟩ := ox.shape
      replace i1 := i1.ext yx
      replace i2 := i2.ext yx
      replace hx := hx.trans yx
      clear ox yx
      go_wp2_with fail
      refine (sRowsThen_c s aA aB cA cB A B _ i1 i2 (by omega) (by omega)).mono ?_
      rintro e w3 ⟨vy, rfl, oy, yy⟩
      obtain ⟨ay, cy, rfl, iy⟩ := oy.shape
      replace i1 := i1.ext yy
      replace i2 := i2.ext yy
      replace ix := ix.ext yy
      replace hx := hx.trans yy
      clear oy yy
      have hq : (thenF s A B == thenF s A B) = true := by simp
      have hFl := thenF_len s A B
      go_wp2_with fail
      refine (sameInts_c _ _ _ _ (thenF s A B) (thenF s A B) _ ix iy (by omega) (by omega)).mono ?_
      rw [hq]
      rintro e w4 ⟨rfl, y⟩
      replace i1 := i1.ext y
      replace i2 := i2.ext y
      replace ix := ix.ext y
      replace hx := hx.trans y
      clear y iy
      cases hv : (rvB s A && rvB s B)
      · have hF : (thenF s A B).length = 0 := by rw [thenF_bad hv]; rfl
        clear hFl
        rw [hF]
        go_wp2_with fail
        refine (alive_c _).mono ?_
        rintro e w5 ⟨rfl, rfl⟩
        go_wp2
        go_ret
        exact ⟨rfl, hx⟩
      · rw [Bool.and_eq_true] at hv
        obtain ⟨hvA, hvB⟩ := hv
        have hvX := thenF_rv hvA hvB
        have hXl : 1 ≤ (thenF s A B).length := (rvB_sets hvX).2.2.1
        obtain ⟨hvBA, -, hBA1⟩ := backF_laws hvA
        obtain ⟨hvBB, -, hBB1⟩ := backF_laws hvB
        have hBAl := backF_len s A
        have hBBl := backF_len s B
        have HT := Lib.hid (thenF_back hvA hvB)
        have HVA := Lib.hid hvA
        have HVB := Lib.hid hvB
        have HVX := Lib.hid hvX
        clear hvA hvB hvX hvBA hvBB
        go_wp2_with fail
        refine (drawRowsThen_c a9 c9 l9 _ (h9.ext hx) hb9 hcap9).mono ?_
        rintro e w5 ⟨s2, v3, v4, C, D, rfl, hs2, o3, -, hC, -, y⟩
        obtain ⟨aC, cC, rfl, i3⟩ := o3.shape
        replace i1 := i1.ext y
        replace i2 := i2.ext y
        replace ix := ix.ext y
        replace hx := hx.trans y
        clear y o3
        by_cases hn : s2 = s
        · subst hn
          cases hvC : rvB s2 C
          · go_wp2_with fail
            refine (sRowsValid_c s2 aC cC C _ i3 (by omega)).mono ?_
            rw [hvC]
            rintro e w6 ⟨rfl, m, rfl⟩
            have y : Ext w5 (w5.drewN m) := by (repeat (first | exact Ext.refl _ | assumption | refine Ext.alloc ?_ _ | refine Ext.drewN ?_ _ | refine Ext.drew ?_))
            replace i1 := i1.ext y
            replace i2 := i2.ext y
            replace ix := ix.ext y
            replace hx := hx.trans y
            clear y i3 hvC
            go_wp2_with fail
            refine (iRowsValid_c s2 ax cx (thenF s2 A B) _ ix (by omega)).mono ?_
            rw [HVX.out]
            rintro e w7 ⟨rfl, y⟩
            replace i1 := i1.ext y
            replace i2 := i2.ext y
            replace ix := ix.ext y
            replace hx := hx.trans y
            clear y
            go_wp2_with fail
            refine (iRowsBack_c s2 ax cx (thenF s2 A B) _ ix (by omega)).mono ?_
            rintro e w8 ⟨vz, rfl, oz, y⟩
            obtain ⟨az, cz, rfl, iz⟩ := oz.shape
            replace i1 := i1.ext y
            replace i2 := i2.ext y
            replace hx := hx.trans y
            clear y oz
            go_wp2_with fail
            refine (iRowsBack_c s2 aB cB B _ i2 (by omega)).mono ?_
            rintro e w9 ⟨vb, rfl, ob, y⟩
            obtain ⟨ab, cb, rfl, ib⟩ := ob.shape
            replace i1 := i1.ext y
            replace iz := iz.ext y
            replace hx := hx.trans y
            clear y ob
            go_wp2_with fail
            refine (iRowsBack_c s2 aA cA A _ i1 (by omega)).mono ?_
            rintro e w10 ⟨va, rfl, oa, y⟩
            obtain ⟨aa, ca, rfl, ia⟩ := oa.shape
            replace ib := ib.ext y
            replace iz := iz.ext y
            replace hx := hx.trans y
            clear y oa
            go_wp2_with fail
            refine (iRowsThen_c s2 ab aa cb ca (backF s2 B) (backF s2 A) _ ib ia (by omega) (by omega)).mono ?_
            rw [← HT.out]
            rintro e w11 ⟨vr, rfl, or, y⟩
            obtain ⟨ar, cr, rfl, ir⟩ := or.shape
            replace iz := iz.ext y
            replace hx := hx.trans y
            clear y or
            have hTl := backF_len s2 (thenF s2 A B)
            have hq2 : (backF s2 (thenF s2 A B) == backF s2 (thenF s2 A B)) = true := by simp
            go_wp2_with fail
            refine (sameInts_c _ _ _ _ (backF s2 (thenF s2 A B)) (backF s2 (thenF s2 A B)) _ iz ir (by omega) (by omega)).mono ?_
            rw [hq2]
            rintro e w12 ⟨rfl, y⟩
            replace hx := hx.trans y
            go_wp2
            go_ret
            exact ⟨rfl, hx⟩
          · go_wp2_with fail
            refine (sRowsValid_c s2 aC cC C _ i3 (by omega)).mono ?_
            rw [hvC]
            rintro e w6 ⟨rfl, m, rfl⟩
            have y : Ext w5 (w5.drewN m) := by (repeat (first | exact Ext.refl _ | assumption | refine Ext.alloc ?_ _ | refine Ext.drewN ?_ _ | refine Ext.drew ?_))
            replace i1 := i1.ext y
            replace i2 := i2.ext y
            replace i3 := i3.ext y
            replace ix := ix.ext y
            replace hx := hx.trans y
            clear y
            have HAS := Lib.hid (thenF_assoc HVA.out HVB.out hvC)
            clear hvC
            go_wp2_with fail
            refine (iRowsThen_c s2 ax aC cx cC (thenF s2 A B) C _ ix i3 (by omega) (by omega)).mono ?_
            rintro e w7 ⟨vp, rfl, op, y⟩
            obtain ⟨ap, cp, rfl, ip⟩ := op.shape
            replace i1 := i1.ext y
            replace i2 := i2.ext y
            replace i3 := i3.ext y
            replace ix := ix.ext y
            replace hx := hx.trans y
            clear y op
            go_wp2_with fail
            refine (iRowsThen_c s2 aB aC cB cC B C _ i2 i3 (by omega) (by omega)).mono ?_
            rintro e w8 ⟨vk, rfl, ok, y⟩
            obtain ⟨ak, ck, rfl, ik⟩ := ok.shape
            replace i1 := i1.ext y
            replace i2 := i2.ext y
            replace ix := ix.ext y
            replace ip := ip.ext y
            replace hx := hx.trans y
            clear y ok i3
            have hBC := thenF_len s2 B C
            go_wp2_with fail
            refine (iRowsThen_c s2 aA ak cA ck A (thenF s2 B C) _ i1 ik (by omega) (by omega)).mono ?_
            rw [← HAS.out]
            rintro e w9 ⟨vm, rfl, om, y⟩
            obtain ⟨am, cm, rfl, im⟩ := om.shape
            replace i1 := i1.ext y
            replace i2 := i2.ext y
            replace ix := ix.ext y
            replace ip := ip.ext y
            replace hx := hx.trans y
            clear y om ik
            have hPl := thenF_len s2 (thenF s2 A B) C
            have hq3 : (thenF s2 (thenF s2 A B) C == thenF s2 (thenF s2 A B) C) = true := by simp
            go_wp2_with fail
            refine (sameInts_c _ _ _ _ (thenF s2 (thenF s2 A B) C) (thenF s2 (thenF s2 A B) C) _ ip im (by omega) (by omega)).mono ?_
            rw [hq3]
            rintro e w10 ⟨rfl, y⟩
            replace i1 := i1.ext y
            replace i2 := i2.ext y
            replace ix := ix.ext y
            replace hx := hx.trans y
            clear y ip im hq3 hPl hBC
            go_wp2_with fail
            refine (iRowsValid_c s2 ax cx (thenF s2 A B) _ ix (by omega)).mono ?_
            rw [HVX.out]
            rintro e w7 ⟨rfl, y⟩
            replace i1 := i1.ext y
            replace i2 := i2.ext y
            replace ix := ix.ext y
            replace hx := hx.trans y
            clear y
            go_wp2_with fail
            refine (iRowsBack_c s2 ax cx (thenF s2 A B) _ ix (by omega)).mono ?_
            rintro e w8 ⟨vz, rfl, oz, y⟩
            obtain ⟨az, cz, rfl, iz⟩ := oz.shape
            replace i1 := i1.ext y
            replace i2 := i2.ext y
            replace hx := hx.trans y
            clear y oz
            go_wp2_with fail
            refine (iRowsBack_c s2 aB cB B _ i2 (by omega)).mono ?_
            rintro e w9 ⟨vb, rfl, ob, y⟩
            obtain ⟨ab, cb, rfl, ib⟩ := ob.shape
            replace i1 := i1.ext y
            replace iz := iz.ext y
            replace hx := hx.trans y
            clear y ob
            go_wp2_with fail
            refine (iRowsBack_c s2 aA cA A _ i1 (by omega)).mono ?_
            rintro e w10 ⟨va, rfl, oa, y⟩
            obtain ⟨aa, ca, rfl, ia⟩ := oa.shape
            replace ib := ib.ext y
            replace iz := iz.ext y
            replace hx := hx.trans y
            clear y oa
            go_wp2_with fail
            refine (iRowsThen_c s2 ab aa cb ca (backF s2 B) (backF s2 A) _ ib ia (by omega) (by omega)).mono ?_
            rw [← HT.out]
            rintro e w11 ⟨vr, rfl, or, y⟩
            obtain ⟨ar, cr, rfl, ir⟩ := or.shape
            replace iz := iz.ext y
            replace hx := hx.trans y
            clear y or
            have hTl := backF_len s2 (thenF s2 A B)
            have hq2 : (backF s2 (thenF s2 A B) == backF s2 (thenF s2 A B)) = true := by simp
            go_wp2_with fail
            refine (sameInts_c _ _ _ _ (backF s2 (thenF s2 A B)) (backF s2 (thenF s2 A B)) _ iz ir (by omega) (by omega)).mono ?_
            rw [hq2]
            rintro e w12 ⟨rfl, y⟩
            replace hx := hx.trans y
            go_wp2
            go_ret
            exact ⟨rfl, hx⟩
        · have hn2 : ((s2 : Int) == (s : Int)) = false := by simp; omega
          clear i3
          go_wp2_with fail
          refine (iRowsValid_c s ax cx (thenF s A B) _ ix (by omega)).mono ?_
          rw [HVX.out]
          rintro e w7 ⟨rfl, y⟩
          replace i1 := i1.ext y
          replace i2 := i2.ext y
          replace ix := ix.ext y
          replace hx := hx.trans y
          clear y
          go_wp2_with fail
          refine (iRowsBack_c s ax cx (thenF s A B) _ ix (by omega)).mono ?_
          rintro e w8 ⟨vz, rfl, oz, y⟩
          obtain ⟨az, cz, rfl, iz⟩ := oz.shape
          replace i1 := i1.ext y
          replace i2 := i2.ext y
          replace hx := hx.trans y
          clear y oz
          go_wp2_with fail
          refine (iRowsBack_c s aB cB B _ i2 (by omega)).mono ?_
          rintro e w9 ⟨vb, rfl, ob, y⟩
          obtain ⟨ab, cb, rfl, ib⟩ := ob.shape
          replace i1 := i1.ext y
          replace iz := iz.ext y
          replace hx := hx.trans y
          clear y ob
          go_wp2_with fail
          refine (iRowsBack_c s aA cA A _ i1 (by omega)).mono ?_
          rintro e w10 ⟨va, rfl, oa, y⟩
          obtain ⟨aa, ca, rfl, ia⟩ := oa.shape
          replace ib := ib.ext y
          replace iz := iz.ext y
          replace hx := hx.trans y
          clear y oa
          go_wp2_with fail
          refine (iRowsThen_c s ab aa cb ca (backF s B) (backF s A) _ ib ia (by omega) (by omega)).mono ?_
          rw [← HT.out]
          rintro e w11 ⟨vr, rfl, or, y⟩
          obtain ⟨ar, cr, rfl, ir⟩ := or.shape
          replace iz := iz.ext y
          replace hx := hx.trans y
          clear y or
          have hTl := backF_len s (thenF s A B)
          have hq2 : (backF s (thenF s A B) == backF s (thenF s A B)) = true := by simp
          go_wp2_with fail
          refine (sameInts_c _ _ _ _ (backF s (thenF s A B)) (backF s (thenF s A B)) _ iz ir (by omega) (by omega)).mono ?_
          rw [hq2]
          rintro e w12 ⟨rfl, y⟩
          replace hx := hx.trans y
          go_wp2
          go_ret
          exact ⟨rfl, hx⟩
    · go_enter Try.func15, Try.ntmps15
      go_wp2
      go_ret
      exact ⟨rfl, Ext.refl _⟩
  · by_cases hb9 : l9.length ≤ 1048576
    all_goals
      go_enter Try.func15, Try.ntmps15
      go_wp2
      go_ret
      exact ⟨rfl, Ext.refl _⟩
end Go.Proofs.Ytfaeiihgjoognaa
