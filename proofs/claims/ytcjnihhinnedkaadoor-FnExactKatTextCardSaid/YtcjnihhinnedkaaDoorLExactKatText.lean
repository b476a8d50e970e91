/- For all arguments: the program's KatText answers what the reference's does, and leaves its argument alone (FnExactKatText). -/
import Derived.Test.YtcjnihhinnedkaaDoorTk
namespace Go.Proofs.YtcjnihhinnedkaaDoor
set_option linter.unusedVariables false
open Go.RowKit Go.Kt

set_option maxRecDepth 100000 in
set_option maxHeartbeats 800000 in
theorem fnExactKatText_c (a1 : Option Addr) (c1 : Nat) (l1 : List Int) (w : World) (hl1 : IntsAt w a1 l1) (hlen1 : l1.length ≤ 9223372036854775807) (hn : NamesW w) :
    Calls Tryd.prog 3 #[.slice a1 l1.length c1] w fun e w' => e = .returned (.bool true) ∧ Ext w w' := by
  by_cases hb1 : l1.length ≤ 1048576
  · have hq1 : (l1 == l1) = true := by simp
    have hs1 : l1.length ≤ 4611686018427387904 := by omega
    have hx := Ext.refl w
    have i1 := hl1
    have HN := Lib.hid hn
    clear hn
    go_enter Tryd.func3, Tryd.ntmps3
    go_wp2_with fail
    refine (toIntS_c a1 c1 l1 _ i1 (by omega)).mono ?_
    rintro e w1 ⟨vt1, rfl, ot1, yt1⟩
    obtain ⟨at1, ct1, rfl, -⟩ := ot1.shape
    replace i1 := i1.ext yt1
    replace hx := hx.trans yt1
    go_wp2_with fail
    refine (sKatText_c at1 ct1 l1 _ ot1.ints (by omega) (own_capv ot1)).mono ?_
    rintro e w2 ⟨rfl, yW⟩
    replace i1 := i1.ext yW
    replace hx := hx.trans yW
    clear ot1
    go_wp2_with fail
    refine (toIntS_c a1 c1 l1 _ i1 (by omega)).mono ?_
    rintro e w3 ⟨vx1, rfl, ox1, yx1⟩
    obtain ⟨ax1, cx1, rfl, -⟩ := ox1.shape
    replace i1 := i1.ext yx1
    replace hx := hx.trans yx1
    go_wp2_with fail
    refine (iKatText_c ax1 cx1 l1 _ ox1.ints (by omega) (HN.out.ext hx)).mono ?_
    rintro e w4 ⟨rfl, yG⟩
    replace ox1 := ox1.ext yG
    replace i1 := i1.ext yG
    replace hx := hx.trans yG
    go_wp2_with fail
    refine (toIntS_c a1 c1 l1 _ i1 (by omega)).mono ?_
    rintro e w6 ⟨vu1, rfl, ou1, yu1⟩
    obtain ⟨au1, cu1, rfl, -⟩ := ou1.shape
    replace ox1 := ox1.ext yu1
    replace i1 := i1.ext yu1
    replace hx := hx.trans yu1
    go_wp2_with fail
    refine (eqIntS_c _ _ _ _ l1 l1 _ ox1.ints ou1.ints hs1 hs1).mono ?_
    rintro e w7 ⟨rfl, y⟩
    replace hx := hx.trans y
    clear y
    go_wp2
    go_ret
    exact ⟨rfl, hx⟩
  · go_enter Tryd.func3, Tryd.ntmps3
    go_wp2
    go_ret
    exact ⟨rfl, Ext.refl _⟩
end Go.Proofs.YtcjnihhinnedkaaDoor
