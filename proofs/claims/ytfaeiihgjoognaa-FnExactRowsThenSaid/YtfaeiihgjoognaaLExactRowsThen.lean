/- For all arguments: the program's RowsThen answers what the reference's does, leaves its arguments alone, and shares no memory (FnExactRowsThen). -/
import Derived.Test.YtfaeiihgjoognaaE
namespace Go.Proofs.Ytfaeiihgjoognaa
open Go.RowKit Go.Kt

set_option maxRecDepth 100000 in
set_option maxHeartbeats 800000 in
theorem fnExactRowsThen_c (n0 : Int) (a1 : Option Addr) (c1 : Nat) (l1 : List Int) (a2 : Option Addr) (c2 : Nat) (l2 : List Int) (w : World) (hl1 : IntsAt w a1 l1) (hlen1 : l1.length ≤ 9223372036854775807) (hl2 : IntsAt w a2 l2) (hlen2 : l2.length ≤ 9223372036854775807) :
    Calls Try.prog 7 #[.int .i64 n0, .slice a1 l1.length c1, .slice a2 l2.length c2] w fun e w' => e = .returned (.bool true) ∧ Ext w w' := by
  by_cases hb1 : l1.length ≤ 1048576
  · have hq1 : (l1 == l1) = true := by simp
    by_cases hb2 : l2.length ≤ 1048576
    · have hq2 : (l2 == l2) = true := by simp
      have hs1 : l1.length ≤ 4611686018427387904 := by omega
      have hs2 : l2.length ≤ 4611686018427387904 := by omega
      have hqF : ((thenF n0 l1 l2) == (thenF n0 l1 l2)) = true := by simp
      have hFl := thenF_len n0 l1 l2
      have hFl2 : (thenF n0 l1 l2).length ≤ 4611686018427387904 := by omega
      have hx := Ext.refl w
      have i1 := hl1
      have i2 := hl2
      go_enter Try.func7, Try.ntmps7
      go_wp2_with fail
      refine (toIntS_c a1 c1 l1 _ i1 (by omega)).mono ?_
      rintro e w1 ⟨vt1, rfl, ot1, yt1⟩
      obtain ⟨at1, ct1, rfl, -⟩ := ot1.shape
      have hBt1 := hx.size
      replace i1 := i1.ext yt1
      replace i2 := i2.ext yt1
      replace hx := hx.trans yt1
      go_wp2_with fail
      refine (toIntS_c a2 c2 l2 _ i2 (by omega)).mono ?_
      rintro e w2 ⟨vt2, rfl, ot2, yt2⟩
      obtain ⟨at2, ct2, rfl, -⟩ := ot2.shape
      have apt1t2 := Lib.hid (own_apart ot1 ot2 (Nat.le_refl _))
      have hBt2 := hx.size
      replace ot1 := ot1.ext yt2
      replace i1 := i1.ext yt2
      replace i2 := i2.ext yt2
      replace hx := hx.trans yt2
      go_wp2_with fail
      refine (sRowsThen_c n0 at1 at2 ct1 ct2 l1 l2 _ ot1.ints ot2.ints hb1 hb2).mono ?_
      rintro e w3 ⟨vW, rfl, oW, yW⟩
      obtain ⟨aW, cW, rfl, -⟩ := oW.shape
      have apt1W := Lib.hid (own_apart ot1 oW (Nat.le_refl _))
      have apt2W := Lib.hid (own_apart ot2 oW (Nat.le_refl _))
      have hBW := hx.size
      replace ot1 := ot1.ext yW
      replace ot2 := ot2.ext yW
      replace i1 := i1.ext yW
      replace i2 := i2.ext yW
      replace hx := hx.trans yW
      clear ot1
      clear ot2
      go_wp2_with fail
      refine (toIntS_c a1 c1 l1 _ i1 (by omega)).mono ?_
      rintro e w4 ⟨vx1, rfl, ox1, yx1⟩
      obtain ⟨ax1, cx1, rfl, -⟩ := ox1.shape
      have apWx1 := Lib.hid (own_apart oW ox1 (Nat.le_refl _))
      have hBx1 := hx.size
      replace oW := oW.ext yx1
      replace i1 := i1.ext yx1
      replace i2 := i2.ext yx1
      replace hx := hx.trans yx1
      go_wp2_with fail
      refine (toIntS_c a2 c2 l2 _ i2 (by omega)).mono ?_
      rintro e w5 ⟨vx2, rfl, ox2, yx2⟩
      obtain ⟨ax2, cx2, rfl, -⟩ := ox2.shape
      have apWx2 := Lib.hid (own_apart oW ox2 (Nat.le_refl _))
      have apx1x2 := Lib.hid (own_apart ox1 ox2 (Nat.le_refl _))
      have hBx2 := hx.size
      replace oW := oW.ext yx2
      replace ox1 := ox1.ext yx2
      replace i1 := i1.ext yx2
      replace i2 := i2.ext yx2
      replace hx := hx.trans yx2
      go_wp2_with fail
      refine (iRowsThen_c n0 ax1 ax2 cx1 cx2 l1 l2 _ ox1.ints ox2.ints hb1 hb2).mono ?_
      rintro e w6 ⟨vG, rfl, oG, yG⟩
      obtain ⟨aG, cG, rfl, -⟩ := oG.shape
      have apWG := Lib.hid (own_apart oW oG (Nat.le_refl _))
      have apx1G := Lib.hid (own_apart ox1 oG (Nat.le_refl _))
      have apx2G := Lib.hid (own_apart ox2 oG (Nat.le_refl _))
      have hBG := hx.size
      replace oW := oW.ext yG
      replace ox1 := ox1.ext yG
      replace ox2 := ox2.ext yG
      replace i1 := i1.ext yG
      replace i2 := i2.ext yG
      replace hx := hx.trans yG
      go_wp2_with fail
      refine (eqIntS_c _ _ _ _ (thenF n0 l1 l2) (thenF n0 l1 l2) _ oG.ints oW.ints hFl2 hFl2).mono ?_
      rintro e w7 ⟨rfl, y⟩
      replace oW := oW.ext y
      replace ox1 := ox1.ext y
      replace ox2 := ox2.ext y
      replace oG := oG.ext y
      replace i1 := i1.ext y
      replace i2 := i2.ext y
      replace hx := hx.trans y
      clear y
      go_wp2_with fail
      refine (toIntS_c a1 c1 l1 _ i1 (by omega)).mono ?_
      rintro e w8 ⟨vu1, rfl, ou1, yu1⟩
      obtain ⟨au1, cu1, rfl, -⟩ := ou1.shape
      have apWu1 := Lib.hid (own_apart oW ou1 (Nat.le_refl _))
      have apx1u1 := Lib.hid (own_apart ox1 ou1 (Nat.le_refl _))
      have apx2u1 := Lib.hid (own_apart ox2 ou1 (Nat.le_refl _))
      have apGu1 := Lib.hid (own_apart oG ou1 (Nat.le_refl _))
      have hBu1 := hx.size
      replace oW := oW.ext yu1
      replace ox1 := ox1.ext yu1
      replace ox2 := ox2.ext yu1
      replace oG := oG.ext yu1
      replace i1 := i1.ext yu1
      replace i2 := i2.ext yu1
      replace hx := hx.trans yu1
      go_wp2_with fail
      refine (eqIntS_c _ _ _ _ l1 l1 _ ox1.ints ou1.ints hs1 hs1).mono ?_
      rintro e w9 ⟨rfl, y⟩
      replace oW := oW.ext y
      replace ox1 := ox1.ext y
      replace ox2 := ox2.ext y
      replace oG := oG.ext y
      replace ou1 := ou1.ext y
      replace i1 := i1.ext y
      replace i2 := i2.ext y
      replace hx := hx.trans y
      clear y
      clear ou1
      go_wp2_with fail
      refine (toIntS_c a2 c2 l2 _ i2 (by omega)).mono ?_
      rintro e w10 ⟨vu2, rfl, ou2, yu2⟩
      obtain ⟨au2, cu2, rfl, -⟩ := ou2.shape
      have apWu2 := Lib.hid (own_apart oW ou2 (Nat.le_refl _))
      have apx1u2 := Lib.hid (own_apart ox1 ou2 (Nat.le_refl _))
      have apx2u2 := Lib.hid (own_apart ox2 ou2 (Nat.le_refl _))
      have apGu2 := Lib.hid (own_apart oG ou2 (Nat.le_refl _))
      have hBu2 := hx.size
      replace oW := oW.ext yu2
      replace ox1 := ox1.ext yu2
      replace ox2 := ox2.ext yu2
      replace oG := oG.ext yu2
      replace i1 := i1.ext yu2
      replace i2 := i2.ext yu2
      replace hx := hx.trans yu2
      go_wp2_with fail
      refine (eqIntS_c _ _ _ _ l2 l2 _ ox2.ints ou2.ints hs2 hs2).mono ?_
      rintro e w11 ⟨rfl, y⟩
      replace oW := oW.ext y
      replace ox1 := ox1.ext y
      replace ox2 := ox2.ext y
      replace oG := oG.ext y
      replace ou2 := ou2.ext y
      replace i1 := i1.ext y
      replace i2 := i2.ext y
      replace hx := hx.trans y
      clear y
      clear ou2
      go_wp2_with fail
      refine (markIntS_c _ _ _ _ _ 1 _ ox1 (by omega) (by omega) (by omega)).mono ?_
      rintro e w12 ⟨rfl, om, hg⟩
      replace oW := oW.kept hg apWx1.out.1
      replace ox2 := ox2.kept hg apx1x2.out.2
      replace oG := oG.kept hg apx1G.out.2
      have y := OwnI.grown (OwnI.mono ox1 hBx1) hx hg
      clear hx; have hx := y; clear y
      replace i1 := hl1.ext hx
      replace i2 := hl2.ext hx
      replace ox1 := om
      clear om hg
      go_wp2_with fail
      refine (markIntS_c _ _ _ _ _ (1 + (l1.length : Int)) _ ox2 (by omega) (by omega) (by omega)).mono ?_
      rintro e w13 ⟨rfl, om, hg⟩
      replace oW := oW.kept hg apWx2.out.1
      replace ox1 := ox1.kept hg apx1x2.out.1
      replace oG := oG.kept hg apx2G.out.2
      have y := OwnI.grown (OwnI.mono ox2 hBx2) hx hg
      clear hx; have hx := y; clear y
      replace i1 := hl1.ext hx
      replace i2 := hl2.ext hx
      replace ox2 := om
      clear om hg
      go_wp2_with fail
      refine (eqIntS_c _ _ _ _ (thenF n0 l1 l2) (thenF n0 l1 l2) _ oG.ints oW.ints hFl2 hFl2).mono ?_
      rintro e w14 ⟨rfl, y⟩
      replace oW := oW.ext y
      replace ox1 := ox1.ext y
      replace ox2 := ox2.ext y
      replace oG := oG.ext y
      replace i1 := i1.ext y
      replace i2 := i2.ext y
      replace hx := hx.trans y
      clear y
      go_wp2_with fail
      refine (markIntS_c _ _ _ _ _ 1 _ oG (by omega) (by omega) (by omega)).mono ?_
      rintro e w15 ⟨rfl, om, hg⟩
      replace oW := oW.kept hg apWG.out.1
      replace ox1 := ox1.kept hg apx1G.out.1
      replace ox2 := ox2.kept hg apx2G.out.1
      have y := OwnI.grown (OwnI.mono oG hBG) hx hg
      clear hx; have hx := y; clear y
      replace i1 := hl1.ext hx
      replace i2 := hl2.ext hx
      replace oG := om
      clear om hg
      go_wp2_with fail
      refine (heldIntS_c _ _ _ 1 _ oG.ints (by omega) (by omega) (by omega)).mono ?_
      rintro e w16 ⟨rfl, rfl⟩
      go_wp2_with fail
      refine (toIntS_c a1 c1 l1 _ i1 (by omega)).mono ?_
      rintro e w17 ⟨vz1, rfl, oz1, yz1⟩
      obtain ⟨az1, cz1, rfl, -⟩ := oz1.shape
      have apWz1 := Lib.hid (own_apart oW oz1 (Nat.le_refl _))
      have apx1z1 := Lib.hid (own_apart ox1 oz1 (Nat.le_refl _))
      have apx2z1 := Lib.hid (own_apart ox2 oz1 (Nat.le_refl _))
      have apGz1 := Lib.hid (own_apart oG oz1 (Nat.le_refl _))
      have hBz1 := hx.size
      replace oW := oW.ext yz1
      replace ox1 := ox1.ext yz1
      replace ox2 := ox2.ext yz1
      replace oG := oG.ext yz1
      replace i1 := i1.ext yz1
      replace i2 := i2.ext yz1
      replace hx := hx.trans yz1
      go_wp2_with fail
      refine (toIntS_c a2 c2 l2 _ i2 (by omega)).mono ?_
      rintro e w18 ⟨vz2, rfl, oz2, yz2⟩
      obtain ⟨az2, cz2, rfl, -⟩ := oz2.shape
      have apWz2 := Lib.hid (own_apart oW oz2 (Nat.le_refl _))
      have apx1z2 := Lib.hid (own_apart ox1 oz2 (Nat.le_refl _))
      have apx2z2 := Lib.hid (own_apart ox2 oz2 (Nat.le_refl _))
      have apGz2 := Lib.hid (own_apart oG oz2 (Nat.le_refl _))
      have apz1z2 := Lib.hid (own_apart oz1 oz2 (Nat.le_refl _))
      have hBz2 := hx.size
      replace oW := oW.ext yz2
      replace ox1 := ox1.ext yz2
      replace ox2 := ox2.ext yz2
      replace oG := oG.ext yz2
      replace oz1 := oz1.ext yz2
      replace i1 := i1.ext yz2
      replace i2 := i2.ext yz2
      replace hx := hx.trans yz2
      go_wp2_with fail
      refine (iRowsThen_c n0 az1 az2 cz1 cz2 l1 l2 _ oz1.ints oz2.ints hb1 hb2).mono ?_
      rintro e w19 ⟨vH, rfl, oH, yH⟩
      obtain ⟨aH, cH, rfl, -⟩ := oH.shape
      have apWH := Lib.hid (own_apart oW oH (Nat.le_refl _))
      have apx1H := Lib.hid (own_apart ox1 oH (Nat.le_refl _))
      have apx2H := Lib.hid (own_apart ox2 oH (Nat.le_refl _))
      have apGH := Lib.hid (own_apart oG oH (Nat.le_refl _))
      have apz1H := Lib.hid (own_apart oz1 oH (Nat.le_refl _))
      have apz2H := Lib.hid (own_apart oz2 oH (Nat.le_refl _))
      have hBH := hx.size
      replace oW := oW.ext yH
      replace ox1 := ox1.ext yH
      replace ox2 := ox2.ext yH
      replace oG := oG.ext yH
      replace oz1 := oz1.ext yH
      replace oz2 := oz2.ext yH
      replace i1 := i1.ext yH
      replace i2 := i2.ext yH
      replace hx := hx.trans yH
      clear oz1
      clear oz2
      go_wp2_with fail
      refine (eqIntS_c _ _ _ _ (thenF n0 l1 l2) (thenF n0 l1 l2) _ oH.ints oW.ints hFl2 hFl2).mono ?_
      rintro e w20 ⟨rfl, y⟩
      replace oW := oW.ext y
      replace ox1 := ox1.ext y
      replace ox2 := ox2.ext y
      replace oG := oG.ext y
      replace oH := oH.ext y
      replace i1 := i1.ext y
      replace i2 := i2.ext y
      replace hx := hx.trans y
      clear y
      go_wp2_with fail
      refine (heldIntS_c _ _ _ 1 _ oG.ints (by omega) (by omega) (by omega)).mono ?_
      rintro e w21 ⟨rfl, rfl⟩
      go_wp2
      go_ret
      exact ⟨rfl, hx⟩
    · go_enter Try.func7, Try.ntmps7
      go_wp2
      go_ret
      exact ⟨rfl, Ext.refl _⟩
  · go_enter Try.func7, Try.ntmps7
    go_wp2
    go_ret
    exact ⟨rfl, Ext.refl _⟩
end Go.Proofs.Ytfaeiihgjoognaa
