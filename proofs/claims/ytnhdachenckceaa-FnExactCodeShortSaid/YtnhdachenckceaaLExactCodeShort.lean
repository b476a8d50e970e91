/- For all codes: the program's CodeShort answers what the reference's does, leaves the code alone, and shares no memory (FnExactCodeShort). -/
import Derived.Test.YtnhdachenckceaaCf
namespace Go.Proofs.Ytnhdachenckceaa
set_option linter.unusedVariables false
open Go.RowKit Go.Kt

set_option maxHeartbeats 1600000 in
theorem fnExactCodeShort_c (a0 : Option Addr) (n0 c0 : Nat) (L0 : List Int) (w : World) (h0 : FlatAt w a0 n0 L0) (hn0 : n0 ≤ 9223372036854775807) :
    Calls Try.prog 12 #[.slice a0 n0 c0] w fun e w' => e = .returned (.bool true) ∧ Ext w w' := by
  by_cases hb : (n0 : Int) ≤ 1048576
  · have hN := shN_le n0 L0
    have hk1 : (1 : Int) + ((shN n0 L0 * 3 : Nat) : Int) ≤ 200 := by omega
    go_enter Try.func12, Try.ntmps12
    go_wp2_with fail
    refine (szInsS_c a0 c0 n0 1048576 _ hn0 (by omega) (by omega)).mono ?_
    rw [if_pos hb]
    rintro e w0 ⟨rfl, rfl⟩
    go_wp2_with fail
    refine (toInsS_c a0 n0 c0 L0 _ h0 (by omega)).mono ?_
    rintro e w1 ⟨v1, rfl, o1, y⟩
    obtain ⟨a1, c1, rfl, i1⟩ := o1.shape
    have hx := y
    clear o1 y
    go_wp2_with fail
    refine (sCodeShort_c a1 n0 c1 L0 _ i1 (by omega)).mono ?_
    rintro e w2 ⟨vW, rfl, oW, y⟩
    obtain ⟨aW, cW, rfl, -⟩ := oW.shape
    have hBW := hx.size
    replace hx := hx.trans y
    clear y i1
    go_wp2_with fail
    refine (toInsS_c a0 n0 c0 L0 _ (h0.ext hx) (by omega)).mono ?_
    rintro e w3 ⟨vx, rfl, ox, y⟩
    obtain ⟨ax, cx, rfl, ix⟩ := ox.shape
    have apWx := Lib.hid (own_apart oW ox (Nat.le_refl _))
    have hBx := hx.size
    replace oW := oW.ext y
    replace hx := hx.trans y
    clear y
    go_wp2_with fail
    refine (iCodeShort_c ax n0 cx L0 _ ix (by omega)).mono ?_
    rintro e w4 ⟨vG, rfl, oG, y⟩
    obtain ⟨aG, cG, rfl, -⟩ := oG.shape
    have apWG := Lib.hid (own_apart oW oG (Nat.le_refl _))
    have apxG := Lib.hid (own_apart ox oG (Nat.le_refl _))
    have hBG := hx.size
    replace oW := oW.ext y
    replace ox := ox.ext y
    replace hx := hx.trans y
    clear y ix
    go_wp2_with fail
    refine (eqInsS_c aG aW (shN n0 L0) cG cW (shF n0 L0) _ oG.flat oW.flat (by omega)).mono ?_
    rintro e w5 ⟨rfl, y⟩
    replace oW := oW.ext y
    replace ox := ox.ext y
    replace oG := oG.ext y
    replace hx := hx.trans y
    clear y
    go_wp2_with fail
    refine (toInsS_c a0 n0 c0 L0 _ (h0.ext hx) (by omega)).mono ?_
    rintro e w6 ⟨vu, rfl, ou, y⟩
    obtain ⟨au, cu, rfl, iu⟩ := ou.shape
    replace oW := oW.ext y
    replace ox := ox.ext y
    replace oG := oG.ext y
    replace hx := hx.trans y
    clear y ou
    go_wp2_with fail
    refine (eqInsS_c ax au n0 cx cu L0 _ ox.flat iu (by omega)).mono ?_
    rintro e w7 ⟨rfl, y⟩
    replace oW := oW.ext y
    replace ox := ox.ext y
    replace oG := oG.ext y
    replace hx := hx.trans y
    clear y iu
    go_wp2_with fail
    refine (markInsS_c ax n0 cx _ L0 1 _ ox (by omega) (by omega) (by omega)).mono ?_
    rintro e w8 ⟨rfl, om, hg⟩
    replace oW := OwnF.kept oW hg apWx.out.1
    replace oG := OwnF.kept oG hg apxG.out.2
    have y := OwnF.grown (OwnF.mono ox hBx) hx hg
    clear hx; have hx := y; clear y
    replace ox := om
    clear om hg
    go_wp2_with fail
    refine (eqInsS_c aG aW (shN n0 L0) cG cW (shF n0 L0) _ oG.flat oW.flat (by omega)).mono ?_
    rintro e w9 ⟨rfl, y⟩
    replace oW := oW.ext y
    replace ox := ox.ext y
    replace oG := oG.ext y
    replace hx := hx.trans y
    clear y
    go_wp2_with fail
    refine (markInsS_c aG (shN n0 L0) cG _ (shF n0 L0) 1 _ oG (by omega) (by omega) (by omega)).mono ?_
    rintro e w10 ⟨rfl, om, hg⟩
    replace oW := OwnF.kept oW hg apWG.out.1
    have y := OwnF.grown (OwnF.mono oG hBG) hx hg
    clear hx; have hx := y; clear y
    replace oG := om
    clear om hg ox
    go_wp2_with fail
    refine (heldInsS_c aG (shN n0 L0) cG 1 _ oG.flat (by omega) (by omega) (by omega)).mono ?_
    rintro e w11 ⟨rfl, rfl⟩
    go_wp2_with fail
    refine (toInsS_c a0 n0 c0 L0 _ (h0.ext hx) (by omega)).mono ?_
    rintro e w12 ⟨vz, rfl, oz, y⟩
    obtain ⟨az, cz, rfl, iz⟩ := oz.shape
    replace oW := oW.ext y
    replace oG := oG.ext y
    replace hx := hx.trans y
    clear y oz
    go_wp2_with fail
    refine (iCodeShort_c az n0 cz L0 _ iz (by omega)).mono ?_
    rintro e w13 ⟨vH, rfl, oH, y⟩
    obtain ⟨aH, cH, rfl, iH⟩ := oH.shape
    replace oW := oW.ext y
    replace oG := oG.ext y
    replace hx := hx.trans y
    clear y iz oH
    go_wp2_with fail
    refine (eqInsS_c aH aW (shN n0 L0) cH cW (shF n0 L0) _ iH oW.flat (by omega)).mono ?_
    rintro e w14 ⟨rfl, y⟩
    replace oG := oG.ext y
    replace hx := hx.trans y
    clear y iH oW
    go_wp2_with fail
    refine (heldInsS_c aG (shN n0 L0) cG 1 _ oG.flat (by omega) (by omega) (by omega)).mono ?_
    rintro e w15 ⟨rfl, rfl⟩
    go_wp2
    go_ret
    exact ⟨rfl, hx⟩
  · go_enter Try.func12, Try.ntmps12
    go_wp2_with fail
    refine (szInsS_c a0 c0 n0 1048576 _ hn0 (by omega) (by omega)).mono ?_
    rw [if_neg (by omega)]
    rintro e w0 ⟨rfl, rfl⟩
    go_wp2
    go_ret
    exact ⟨rfl, Ext.refl _⟩
end Go.Proofs.Ytnhdachenckceaa
