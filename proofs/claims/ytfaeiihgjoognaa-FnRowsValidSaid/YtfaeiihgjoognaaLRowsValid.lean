/- For all bytes: rows drawn from them may lead nowhere, and are not valid with a row more (FnRowsValid). -/
import Derived.Test.YtfaeiihgjoognaaU
import Derived.Test.YtfaeiihgjoognaaGd
namespace Go.Proofs.Ytfaeiihgjoognaa
set_option linter.unusedVariables false
open Go.RowKit Go.Kt

set_option maxHeartbeats 1600000 in
theorem fnRowsValid_c (a0 : Option Addr) (c0 : Nat) (l0 : List Int) (w : World) (h0 : BytesAt w a0 l0) (hlen0 : l0.length ≤ 9223372036854775807) (hcap0 : l0.length ≤ c0) :
    Calls Try.prog 4 #[.slice a0 l0.length c0] w fun e w' => e = .returned (.bool true) ∧ Ext w w' := by
  by_cases hb : l0.length ≤ 1048576
  · go_enter Try.func4, Try.ntmps4
    go_wp2_with fail
    refine (drawRowsValid_c a0 c0 l0 _ h0 hb hcap0).mono ?_
    rintro e w1 ⟨s, v, L, rfl, hs, o1, hL, hx⟩
    obtain ⟨aL, cL, rfl, i1⟩ := o1.shape
    clear o1
    go_wp2_with fail
    refine (iRowsValid_c s aL cL L _ i1 (by omega)).mono ?_
    rintro e w2 ⟨rfl, yx⟩
    replace i1 := i1.ext yx
    replace hx := hx.trans yx
    clear yx
    go_wp2_with fail
    refine (sRowsValid_c s aL cL L _ i1 (by omega)).mono ?_
    rintro e w3 ⟨rfl, m, rfl⟩
    have y : Ext w2 (w2.drewN m) := by (repeat (first | exact Ext.refl _ | assumption | refine Ext.alloc ?_ _ | refine Ext.drewN ?_ _ | refine Ext.drew ?_))
    replace i1 := i1.ext y
    replace hx := hx.trans y
    clear y
    cases hv : rvB s L
    · go_wp2_with fail
      refine (iRowsValid_c 0 none 0 [] _ (intsAt_nil _) (by simp)).mono ?_
      rw [show rvB 0 [] = false by decide]
      rintro e w4 ⟨rfl, y⟩
      replace hx := hx.trans y
      clear y
      go_wp2_with fail
      refine (alive_c _).mono ?_
      rintro e w5 ⟨rfl, rfl⟩
      go_wp2
      go_ret
      exact ⟨rfl, hx⟩
    · have hz := rvB_zeros hv
      have hm := rvB_more 0 hv
      obtain ⟨-, -, hl1, hl5⟩ := rvB_sets hv
      have HZ := Lib.hid hz
      have HM := Lib.hid hm
      clear hz hm hv
      go_wp2_with (at_make; refine want_make_int _ (by rfl) _ _ _ rfl w2.heap.size 3 Try.underlying22 infoInt _ _ L.length rfl rfl (by omega) (by simp) ?_)
      intro w4 ho4 hg4
      have hx4 := hx.trans (Ext.of_grown hg4)
      have i4 := i1.ext (Ext.of_grown hg4)
      have io := ho4.ints
      clear hg4 hx i1 ho4
      go_wp2_with fail
      have hzc := iRowsValid_c s (some ⟨w2.heap.size, 0, none⟩) L.length (List.replicate L.length 0) w4 io (by simp; omega)
      rw [List.length_replicate, HZ.out] at hzc
      refine hzc.mono ?_
      clear hzc
      rintro e w5 ⟨rfl, y⟩
      replace i4 := i4.ext y
      replace hx4 := hx4.trans y
      clear y io
      go_wp2_with (at_builtin; refine want_append_ints (by rfl) _ _ _ rfl w5.heap.size 3 Try.underlying22 infoInt _ [] rfl ?ho _ _ L rfl ?hi (by omega) (by simp; omega) (by simp) ?_)
      case ho => exact OwnI.empty _ _
      case hi => exact i4.ext (by (repeat (first | exact Ext.refl _ | assumption | refine Ext.alloc ?_ _ | refine Ext.drewN ?_ _ | refine Ext.drew ?_)))
      intro v6 w6 ho6 hg6
      have hx6 := OwnI.grown (OwnI.empty w5 3) (by (repeat (first | exact Ext.refl _ | assumption | refine Ext.alloc ?_ _ | refine Ext.drewN ?_ _ | refine Ext.drew ?_))) hg6
      have hz6 := hx6.size
      have HO6 := Lib.hid ho6
      clear ho6 hg6 i4
      go_wp2_with (at_builtin; refine want_append_int (by rfl) _ _ _ rfl w5.heap.size 3 Try.underlying22 infoInt v6 L rfl ?ho _ 0 rfl ?hc (by omega) (by simp; omega) ?_)
      case ho => exact HO6.out.ext (by (repeat (first | exact Ext.refl _ | assumption | refine Ext.alloc ?_ _ | refine Ext.drewN ?_ _ | refine Ext.drew ?_)))
      case hc => exact cell_new0 _ _ _
      intro v7 w7 ho7 hg7
      have hx7 := hx4.trans (OwnI.grown (HO6.out.ext (by (repeat (first | exact Ext.refl _ | assumption | refine Ext.alloc ?_ _ | refine Ext.drewN ?_ _ | refine Ext.drew ?_)))) (hx6.trans (by (repeat (first | exact Ext.refl _ | assumption | refine Ext.alloc ?_ _ | refine Ext.drewN ?_ _ | refine Ext.drew ?_)))) hg7)
      obtain ⟨a7, c7, rfl, i7⟩ := ho7.shape
      clear ho7 hg7 HO6
      go_wp2_with fail
      have hzc := iRowsValid_c s a7 c7 (L ++ [0]) w7 i7 (by simp; omega)
      rw [HM.out] at hzc
      simp only [List.length_append, List.length_cons, List.length_nil, Nat.zero_add] at hzc
      refine hzc.mono ?_
      clear hzc
      rintro e w8 ⟨rfl, y⟩
      replace hx7 := hx7.trans y
      clear y i7
      go_wp2_with fail
      refine (iRowsValid_c 0 none 0 [] _ (intsAt_nil _) (by simp)).mono ?_
      rw [show rvB 0 [] = false by decide]
      rintro e w9 ⟨rfl, y⟩
      replace hx7 := hx7.trans y
      clear y
      go_wp2_with fail
      refine (alive_c _).mono ?_
      rintro e w10 ⟨rfl, rfl⟩
      go_wp2
      go_ret
      exact ⟨rfl, hx7⟩
  · go_enter Try.func4, Try.ntmps4
    go_wp2
    go_ret
    exact ⟨rfl, Ext.refl _⟩
end Go.Proofs.Ytfaeiihgjoognaa
