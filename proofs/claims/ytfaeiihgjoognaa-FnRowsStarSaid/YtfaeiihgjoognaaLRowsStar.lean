/- For all bytes: rows drawn from them, again and again, are closed (FnRowsStar). -/
import Derived.Test.YtfaeiihgjoognaaU
namespace Go.Proofs.Ytfaeiihgjoognaa
set_option linter.unusedVariables false
open Go.RowKit Go.Kt

set_option maxHeartbeats 1600000 in
theorem fnRowsStar_c (a0 : Option Addr) (c0 : Nat) (l0 : List Int) (w : World) (h0 : BytesAt w a0 l0) (hlen0 : l0.length ≤ 9223372036854775807) (hcap0 : l0.length ≤ c0) :
    Calls Try.prog 19 #[.slice a0 l0.length c0] w fun e w' => e = .returned (.bool true) ∧ Ext w w' := by
  by_cases hb : l0.length ≤ 1048576
  · go_enter Try.func19, Try.ntmps19
    go_wp2_with fail
    refine (drawRowsStar_c a0 c0 l0 _ h0 hb hcap0).mono ?_
    rintro e w1 ⟨s, v, L, rfl, hs, o1, hL, hx⟩
    obtain ⟨aL, cL, rfl, i1⟩ := o1.shape
    clear o1
    go_wp2_with fail
    refine (iRowsStar_c s aL cL L _ i1 (by omega)).mono ?_
    rintro e w2 ⟨vx, rfl, ox, yx⟩
    obtain ⟨ax, cx, rfl, ix⟩ := ox.shape
    replace i1 := i1.ext yx
    replace hx := hx.trans yx
    clear ox yx
    go_wp2_with fail
    refine (sRowsStar_c s aL cL L _ i1 (by omega)).mono ?_
    rintro e w3 ⟨vy, rfl, oy, yy⟩
    obtain ⟨ay, cy, rfl, iy⟩ := oy.shape
    replace i1 := i1.ext yy
    replace ix := ix.ext yy
    replace hx := hx.trans yy
    clear oy yy
    have hq : (starF s L == starF s L) = true := by simp
    have hFl := starF_len s L
    go_wp2_with fail
    refine (sameInts_c _ _ _ _ (starF s L) (starF s L) _ ix iy (by omega) (by omega)).mono ?_
    rw [hq]
    rintro e w4 ⟨rfl, y⟩
    replace i1 := i1.ext y
    replace ix := ix.ext y
    replace hx := hx.trans y
    clear y iy hq
    cases hv : rvB s L
    · have hF : (starF s L).length = 0 := by simp [starF, hv]
      clear hFl
      rw [hF]
      go_wp2_with fail
      refine (alive_c _).mono ?_
      rintro e w5 ⟨rfl, rfl⟩
      go_wp2
      go_ret
      exact ⟨rfl, hx⟩
    · obtain ⟨hv2, hth, hst, hl1, hll, hsub, hself⟩ := starF_laws hv
      obtain ⟨hs1, -, -⟩ := rvB_sets hv
      obtain ⟨hs2, -, -⟩ := rvB_sets hv2
      have HF := Lib.hid hself
      have HSub := Lib.hid hsub
      have HV2 := Lib.hid hv2
      have HTH := Lib.hid hth
      have HST := Lib.hid hst
      have HLL := Lib.hid hll
      clear hself hsub hv2 hth hst hll
      have I1 := Lib.hid i1
      have IX := Lib.hid ix
      have HX := Lib.hid hx
      clear i1 ix hx
      go_wp2
      go_loopw [6] (fun i wr => Hid (∃ k : Nat, k ≤ (starF s L).length ∧ i = .int .i64 k ∧ ∃ m, wr = w4.drewN m)) (fun i _ => (starF s L).length - (intOf i).toNat)
      case atStart => exact Lib.hid ⟨0, Nat.zero_le _, rfl, 0, rfl⟩
      case round =>
        obtain ⟨k, hk, rfl, m, rfl⟩ := hrel.out
        clear hrel
        by_cases hlt : k < (starF s L).length
        · obtain ⟨bx, ox, p1, p2⟩ := IX.out
          obtain ⟨rfl, hz⟩ := p1 (by omega)
          have kx := p2 k hlt
          have h0 := (hs2 k hlt).1
          have h1 := HF.out k hlt
          unfold natAt at h1
          obtain ⟨x, hxx⟩ := Int.eq_ofNat_of_zero_le h0
          rw [hxx] at kx h1
          simp only [Int.toNat_natCast] at h1
          have hA0 := tmod_bit x k
          rw [h1] at hA0
          simp only [Bool.toNat_true] at hA0
          clear p1 p2 h0 hxx h1
          go_wp2
          go_roundw
          case rel => exact Lib.hid ⟨k + 1, by omega, by go_num, _, rfl⟩
          case measure => simp [intOf]; omega
        · obtain rfl : k = (starF s L).length := by omega
          have hxm : Ext w (w4.drewN m) := HX.out.drewN m
          have i1 := I1.out.ext (show Ext w4 (w4.drewN m) by (repeat (first | exact Ext.refl _ | assumption | refine Ext.alloc ?_ _ | refine Ext.drewN ?_ _ | refine Ext.drew ?_)))
          have ix := IX.out.ext (show Ext w4 (w4.drewN m) by (repeat (first | exact Ext.refl _ | assumption | refine Ext.alloc ?_ _ | refine Ext.drewN ?_ _ | refine Ext.drew ?_)))
          go_wp2_with fail
          refine (under_c aL ax cL cx L (starF s L) _ i1 ix (by omega) HLL.out.symm hs1 hs2 HSub.out).mono ?_
          rintro e w5 ⟨rfl, y⟩
          replace i1 := i1.ext y
          replace ix := ix.ext y
          replace hxm := hxm.trans y
          clear y
          go_wp2_with fail
          refine (iRowsThen_c s ax ax cx cx (starF s L) (starF s L) _ ix ix (by omega) (by omega)).mono ?_
          rw [HTH.out]
          rintro e w6 ⟨vz, rfl, oz, y⟩
          obtain ⟨az, cz, rfl, iz⟩ := oz.shape
          replace ix := ix.ext y
          replace hxm := hxm.trans y
          clear y oz
          have hq : (starF s L == starF s L) = true := by simp
          go_wp2_with fail
          refine (sameInts_c _ _ _ _ (starF s L) (starF s L) _ iz ix (by omega) (by omega)).mono ?_
          rw [hq]
          rintro e w7 ⟨rfl, y⟩
          replace ix := ix.ext y
          replace hxm := hxm.trans y
          clear y iz
          go_wp2_with fail
          refine (iRowsStar_c s ax cx (starF s L) _ ix (by omega)).mono ?_
          rw [HST.out]
          rintro e w8 ⟨vz, rfl, oz, y⟩
          obtain ⟨az, cz, rfl, iz⟩ := oz.shape
          replace ix := ix.ext y
          replace hxm := hxm.trans y
          clear y oz
          go_wp2_with fail
          refine (sameInts_c _ _ _ _ (starF s L) (starF s L) _ iz ix (by omega) (by omega)).mono ?_
          rw [hq]
          rintro e w9 ⟨rfl, y⟩
          replace ix := ix.ext y
          replace hxm := hxm.trans y
          clear y iz
          go_wp2_with fail
          refine (iRowsValid_c s ax cx (starF s L) _ ix (by omega)).mono ?_
          rw [HV2.out]
          rintro e w10 ⟨rfl, y⟩
          replace hxm := hxm.trans y
          go_wp2
          go_ret
          exact ⟨rfl, hxm⟩
  · go_enter Try.func19, Try.ntmps19
    go_wp2
    go_ret
    exact ⟨rfl, Ext.refl _⟩
end Go.Proofs.Ytfaeiihgjoognaa
