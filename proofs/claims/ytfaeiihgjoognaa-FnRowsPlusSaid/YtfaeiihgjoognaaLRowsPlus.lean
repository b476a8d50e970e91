/- For all bytes: of two rows drawn from them one or the other is above both (FnRowsPlus). -/
import Derived.Test.YtfaeiihgjoognaaU
namespace Go.Proofs.Ytfaeiihgjoognaa
set_option linter.unusedVariables false
open Go.RowKit Go.Kt

set_option maxHeartbeats 1600000 in
theorem fnRowsPlus_c (a0 : Option Addr) (c0 : Nat) (l0 : List Int) (w : World) (h0 : BytesAt w a0 l0) (hlen0 : l0.length ≤ 9223372036854775807) (hcap0 : l0.length ≤ c0) :
    Calls Try.prog 13 #[.slice a0 l0.length c0] w fun e w' => e = .returned (.bool true) ∧ Ext w w' := by
  by_cases hb : l0.length ≤ 1048576
  · go_enter Try.func13, Try.ntmps13
    go_wp2_with fail
    refine (drawRowsPlus_c a0 c0 l0 _ h0 hb hcap0).mono ?_
    rintro e w1 ⟨s, v1, v2, A, B, rfl, hs, o1, o2, hA, hB, hx⟩
    obtain ⟨aA, cA, rfl, i1⟩ := o1.shape
    obtain ⟨aB, cB, rfl, i2⟩ := o2.shape
    clear o1 o2
    go_wp2_with fail
    refine (iRowsPlus_c s aA aB cA cB A B _ i1 i2 (by omega) (by omega)).mono ?_
    rintro e w2 ⟨vx, rfl, ox, yx⟩
    obtain ⟨ax, cx, rfl, ix⟩ := ox.shape
    replace i1 := i1.ext yx
    replace i2 := i2.ext yx
    replace hx := hx.trans yx
    clear ox yx
    go_wp2_with fail
    refine (sRowsPlus_c s aA aB cA cB A B _ i1 i2 (by omega) (by omega)).mono ?_
    rintro e w3 ⟨vy, rfl, oy, yy⟩
    obtain ⟨ay, cy, rfl, iy⟩ := oy.shape
    replace i1 := i1.ext yy
    replace i2 := i2.ext yy
    replace ix := ix.ext yy
    replace hx := hx.trans yy
    clear oy yy
    have hq : (plusF s A B == plusF s A B) = true := by simp
    have hFl := plusF_len s A B
    go_wp2_with fail
    refine (sameInts_c _ _ _ _ (plusF s A B) (plusF s A B) _ ix iy (by omega) (by omega)).mono ?_
    rw [hq]
    rintro e w4 ⟨rfl, y⟩
    replace i1 := i1.ext y
    replace i2 := i2.ext y
    replace ix := ix.ext y
    replace hx := hx.trans y
    clear y iy
    cases hv : (rvB s A && rvB s B)
    · have hF : (plusF s A B).length = 0 := by rw [plusF_bad hv]; rfl
      clear hFl
      rw [hF]
      go_wp2_with fail
      refine (alive_c _).mono ?_
      rintro e w5 ⟨rfl, rfl⟩
      go_wp2
      go_ret
      exact ⟨rfl, hx⟩
    · rw [Bool.and_eq_true] at hv
      obtain ⟨hvA, hvB⟩ := hv
      obtain ⟨hv2, hcm, hl1, hlA, hlB, hsA, hsB⟩ := plusF_laws hvA hvB
      obtain ⟨sA, -, -⟩ := rvB_sets hvA
      obtain ⟨sB, -, -⟩ := rvB_sets hvB
      obtain ⟨sX, -, -⟩ := rvB_sets hv2
      have SA := Lib.hid sA
      have SB := Lib.hid sB
      have SX := Lib.hid sX
      have HA := Lib.hid hsA
      have HB := Lib.hid hsB
      have HLA := Lib.hid hlA
      have HLB := Lib.hid hlB
      have HV2 := Lib.hid hv2
      have HCM := Lib.hid hcm
      clear sA sB sX hsA hsB hlA hlB hv2 hcm
      go_wp2_with fail
      refine (under_c aA ax cA cx A (plusF s A B) _ i1 ix (by omega) HLA.out.symm SA.out SX.out HA.out).mono ?_
      rintro e w5 ⟨rfl, y⟩
      replace i1 := i1.ext y
      replace i2 := i2.ext y
      replace ix := ix.ext y
      replace hx := hx.trans y
      clear y
      go_wp2_with fail
      refine (under_c aB ax cB cx B (plusF s A B) _ i2 ix (by omega) HLB.out.symm SB.out SX.out HB.out).mono ?_
      rintro e w6 ⟨rfl, y⟩
      replace i1 := i1.ext y
      replace i2 := i2.ext y
      replace ix := ix.ext y
      replace hx := hx.trans y
      clear y
      go_wp2_with fail
      refine (iRowsPlus_c s aB aA cB cA B A _ i2 i1 (by omega) (by omega)).mono ?_
      rw [HCM.out]
      rintro e w7 ⟨vz, rfl, oz, y⟩
      obtain ⟨az, cz, rfl, iz⟩ := oz.shape
      replace ix := ix.ext y
      replace hx := hx.trans y
      clear y oz
      go_wp2_with fail
      refine (sameInts_c _ _ _ _ (plusF s A B) (plusF s A B) _ iz ix (by omega) (by omega)).mono ?_
      rw [hq]
      rintro e w8 ⟨rfl, y⟩
      replace ix := ix.ext y
      replace hx := hx.trans y
      clear y iz
      go_wp2_with fail
      refine (iRowsValid_c s ax cx (plusF s A B) _ ix (by omega)).mono ?_
      rw [HV2.out]
      rintro e w9 ⟨rfl, y⟩
      replace hx := hx.trans y
      go_wp2
      go_ret
      exact ⟨rfl, hx⟩
  · go_enter Try.func13, Try.ntmps13
    go_wp2
    go_ret
    exact ⟨rfl, Ext.refl _⟩
end Go.Proofs.Ytfaeiihgjoognaa
