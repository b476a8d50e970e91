/- For all codes: the program's CodeValid answers what the reference's does, and leaves the code alone (FnExactCodeValid). -/
import Derived.Test.YtnhdachenckceaaCb
namespace Go.Proofs.Ytnhdachenckceaa
set_option linter.unusedVariables false
open Go.RowKit Go.Kt

set_option maxHeartbeats 800000 in
theorem fnExactCodeValid_c (a0 : Option Addr) (n0 c0 : Nat) (L0 : List Int) (w : World) (h0 : FlatAt w a0 n0 L0) (hn0 : n0 ≤ 9223372036854775807) :
    Calls Try.prog 4 #[.slice a0 n0 c0] w fun e w' => e = .returned (.bool true) ∧ Ext w w' := by
  by_cases hb : (n0 : Int) ≤ 1048576
  · go_enter Try.func4, Try.ntmps4
    go_wp2_with fail
    refine (szInsS_c a0 c0 n0 1048576 _ hn0 (by omega) (by omega)).mono ?_
    rw [if_pos hb]
    rintro e w0 ⟨rfl, rfl⟩
    go_wp2_with fail
    refine (toInsS_c a0 n0 c0 L0 _ h0 (by omega)).mono ?_
    rintro e w1 ⟨v1, rfl, o1, y⟩
    obtain ⟨a1, c1, rfl, i1⟩ := o1.shape
    have hx := y
    clear o1 y
    go_wp2_with fail
    refine (sCodeValid_c a1 n0 c1 L0 _ i1 (by omega)).mono ?_
    rintro e w2 ⟨rfl, y⟩
    replace hx := hx.trans y
    clear y i1
    go_wp2_with fail
    refine (toInsS_c a0 n0 c0 L0 _ (h0.ext hx) (by omega)).mono ?_
    rintro e w3 ⟨v3, rfl, o3, y⟩
    obtain ⟨a3, c3, rfl, i3⟩ := o3.shape
    replace hx := hx.trans y
    clear o3 y
    go_wp2_with fail
    refine (iCodeValid_c a3 n0 c3 L0 _ i3 (by omega)).mono ?_
    rintro e w4 ⟨rfl, y⟩
    replace i3 := i3.ext y
    replace hx := hx.trans y
    clear y
    cases hcv : cvB n0 L0
    all_goals
      go_wp2_with fail
      refine (toInsS_c a0 n0 c0 L0 _ (h0.ext hx) (by omega)).mono ?_
      rintro e w5 ⟨v5, rfl, o5, y⟩
      obtain ⟨a5, c5, rfl, i5⟩ := o5.shape
      replace i3 := i3.ext y
      replace hx := hx.trans y
      clear o5 y
      go_wp2_with fail
      refine (eqInsS_c a3 a5 n0 c3 c5 L0 _ i3 i5 (by omega)).mono ?_
      rintro e w6 ⟨rfl, y⟩
      replace hx := hx.trans y
      go_wp2
      go_ret
      exact ⟨rfl, hx⟩
  · go_enter Try.func4, Try.ntmps4
    go_wp2_with fail
    refine (szInsS_c a0 c0 n0 1048576 _ hn0 (by omega) (by omega)).mono ?_
    rw [if_neg (by omega)]
    rintro e w0 ⟨rfl, rfl⟩
    go_wp2
    go_ret
    exact ⟨rfl, Ext.refl _⟩
end Go.Proofs.Ytnhdachenckceaa
