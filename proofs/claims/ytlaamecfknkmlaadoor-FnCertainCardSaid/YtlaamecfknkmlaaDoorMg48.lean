/- Merged texts: contracts and plain lemmas (FrameN). -/
import Derived.Test.YtlaamecfknkmlaaDoorMg47
import Derived.Test.YtlaamecfknkmlaaDoorMg9
import Derived.LaidMore
import Derived.MakeChecks
import Derived.ChangeVars
import Derived.OpenVars
import Derived.Stop.Joined
/- What the rows' lists of variables give the walks: the map of the tests' names; and that it reads the same where only new memory was made. -/
namespace Go.Proofs.YtlaamecfknkmlaaDoor
set_option linter.unusedVariables false
open Go.ChangeShapes Go.WideShapes Go.ChangeAt Go.RowKit Go.Kt

def laidN : List (String × DataW Unit) := [("loop.example/kleenetests/impl.testNames", Rows.laid_loop_example_kleenetests_impl_testNames)]
theorem gN : Tryd.prog.globalNamed "loop.example/kleenetests/impl.testNames" = some 2 := by kernel_rfl
theorem tyN : (Tryd.prog.globals[2]?).map (·.type) = some 104 := by kernel_rfl
theorem varsRowedN : varsRowed Tryd.prog ["loop.example/kleenetests/impl.testNames"] = true := by kernel_rfl
set_option maxRecDepth 100000 in
theorem door_metN (os : Os) (args : Array Value) : laidMetH Tryd.prog laidN ((World.doorLaid Tryd.prog 4000 os).forCall (fun _ _ => 0) ⟨#[], args, []⟩).memory :=
  laidMetH_of_parts3 (fuel := 8) (laidMet_of_run' 8 (by kernel_rfl) (by kernel_rfl)) (by kernel_rfl) (by kernel_rfl)
set_option maxRecDepth 100000 in
theorem names_of_laid {W : World} (h : laidMetH Tryd.prog laidN W) : NamesW W := by
  rw [MakeChecks.laidMetH_plain _ _ _ (by kernel_rfl)] at h
  obtain ⟨ps, ⟨g0, t0, cs0, f0, p0, q0, hg0, ht0, hv0, hd0, _, _⟩, _, _⟩ := h
  obtain rfl := Option.some.inj (gN.symm.trans hg0)
  obtain rfl := Option.some.inj (tyN.symm.trans ht0)
  rcases WideElems.open_map Tryd.underlying104 hd0 with ⟨hcs, hx⟩ | ⟨b, es, ck, n, hf, hcs, hb, _, Ft, hx⟩
  · simp [Rows.laid_loop_example_kleenetests_impl_testNames] at hx
  · have hown := World.ownsMap_of_fit (R := plainElem Tryd.prog 9) hb Ft (fun x _ z hz => elemAt_plainElem_string Tryd.underlying9 hz)
    refine ⟨b, es.size, ?_, ?_⟩
    · have := World.var?_cell hg0 hv0 0
      rw [this]
      have e : cs0[0]? = cs0.toList[0]? := by simp
      rw [e, hcs]; rfl
    · simp only [Prod.mk.injEq] at hx
      rw [hx.1]
      exact hown
end Go.Proofs.YtlaamecfknkmlaaDoor
