/- For all bytes: rows drawn from them are, twice back, as before (FnRowsBack). -/
import Derived.Test.YtfaeiihgjoognaaU
namespace Go.Proofs.Ytfaeiihgjoognaa
set_option linter.unusedVariables false
open Go.RowKit Go.Kt

set_option maxHeartbeats 800000 in
theorem fnRowsBack_c (a0 : Option Addr) (c0 : Nat) (l0 : List Int) (w : World) (h0 : BytesAt w a0 l0) (hlen0 : l0.length ≤ 9223372036854775807) (hcap0 : l0.length ≤ c0) :
    Calls Try.prog 10 #[.slice a0 l0.length c0] w fun e w' => e = .returned (.bool true) ∧ Ext w w' := by
  by_cases hb : l0.length ≤ 1048576
  · go_enter Try.func10, Try.ntmps10
    go_wp2_with fail
    refine (drawRowsBack_c a0 c0 l0 _ h0 hb hcap0).mono ?_
    rintro e w1 ⟨s, v, L, rfl, hs, o1, hL, hx⟩
    obtain ⟨aL, cL, rfl, i1⟩ := o1.shape
    clear o1
    go_wp2_with fail
    refine (iRowsBack_c s aL cL L _ i1 (by omega)).mono ?_
    rintro e w2 ⟨vx, rfl, ox, yx⟩
    obtain ⟨ax, cx, rfl, ix⟩ := ox.shape
    replace i1 := i1.ext yx
    replace hx := hx.trans yx
    clear ox yx
    go_wp2_with fail
    refine (sRowsBack_c s aL cL L _ i1 (by omega)).mono ?_
    rintro e w3 ⟨vy, rfl, oy, yy⟩
    obtain ⟨ay, cy, rfl, iy⟩ := oy.shape
    replace i1 := i1.ext yy
    replace ix := ix.ext yy
    replace hx := hx.trans yy
    clear oy yy
    have hq : (backF s L == backF s L) = true := by simp
    have hFl := backF_len s L
    go_wp2_with fail
    refine (sameInts_c _ _ _ _ (backF s L) (backF s L) _ ix iy (by omega) (by omega)).mono ?_
    rw [hq]
    rintro e w4 ⟨rfl, y⟩
    replace i1 := i1.ext y
    replace ix := ix.ext y
    replace hx := hx.trans y
    clear y iy hq
    cases hv : rvB s L
    · have hF : (backF s L).length = 0 := by simp [backF, hv]
      clear hFl
      rw [hF]
      go_wp2_with fail
      refine (alive_c _).mono ?_
      rintro e w5 ⟨rfl, rfl⟩
      go_wp2
      go_ret
      exact ⟨rfl, hx⟩
    · obtain ⟨hv2, hbb, hl1⟩ := backF_laws hv
      go_wp2_with fail
      refine (iRowsValid_c s ax cx (backF s L) _ ix (by omega)).mono ?_
      rw [hv2]
      rintro e w5 ⟨rfl, y⟩
      replace i1 := i1.ext y
      replace ix := ix.ext y
      replace hx := hx.trans y
      clear y
      go_wp2_with fail
      refine (iRowsBack_c s ax cx (backF s L) _ ix (by omega)).mono ?_
      rw [hbb]
      rintro e w6 ⟨vz, rfl, oz, y⟩
      obtain ⟨az, cz, rfl, iz⟩ := oz.shape
      replace i1 := i1.ext y
      replace hx := hx.trans y
      clear y oz ix
      have hq : (L == L) = true := by simp
      go_wp2_with fail
      refine (sameInts_c _ _ _ _ L L _ iz i1 (by omega) (by omega)).mono ?_
      rw [hq]
      rintro e w7 ⟨rfl, y⟩
      replace hx := hx.trans y
      go_wp2
      go_ret
      exact ⟨rfl, hx⟩
  · go_enter Try.func10, Try.ntmps10
    go_wp2
    go_ret
    exact ⟨rfl, Ext.refl _⟩
end Go.Proofs.Ytfaeiihgjoognaa
