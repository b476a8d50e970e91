/- Merged texts: contracts and plain lemmas (FrameT). -/
import Derived.Test.YtlaamecfknkmlaaDoorMh50
import Derived.Test.YtlaamecfknkmlaaDoorMh44
import Derived.LaidMore
import Derived.MakeChecks
import Derived.Stop.Joined
/- What the rows' lists of variables give the walks: the library's table of bits. -/
namespace Go.Proofs.YtlaamecfknkmlaaDoor
set_option linter.unusedVariables false
open Go.ChangeShapes Go.WideShapes Go.ChangeAt Go.RowKit Go.Kt

def laidT : List (String × DataW Unit) := [("math/bits.deBruijn32tab", Rows.laid_math_bits_deBruijn32tab), ("math/bits.deBruijn64tab", Rows.laid_math_bits_deBruijn64tab)]
theorem g32 : Tryd.prog.globalNamed "math/bits.deBruijn32tab" = some 0 := by kernel_rfl
theorem g64 : Tryd.prog.globalNamed "math/bits.deBruijn64tab" = some 1 := by kernel_rfl
theorem ty64 : (Tryd.prog.globals[1]?).map (·.type) = some 94 := by kernel_rfl
theorem c8 : Tryd.prog.cellsOf 5 = 1 := by kernel_rfl
set_option maxRecDepth 100000 in
theorem door_met (os : Os) (args : Array Value) : laidMetH Tryd.prog laidT ((World.doorLaid Tryd.prog 4000 os).forCall (fun _ _ => 0) ⟨#[], args, []⟩).memory :=
  laidMetH_of_parts3 (fuel := 8) (laidMet_of_run' 8 (by kernel_rfl) (by kernel_rfl)) (by kernel_rfl) (by kernel_rfl)
theorem cell_at {cs : List Value} {k : Nat} {v : Value} (h : (cs.drop (k * 1)).take 1 = [v]) : cs[k]? = some v := by
  rw [Nat.mul_one] at h
  have h1 : ((cs.drop k).take 1)[0]? = some v := by rw [h]; rfl
  rw [List.getElem?_take, if_pos (by decide), List.getElem?_drop] at h1
  simpa using h1
set_option maxRecDepth 100000 in
theorem tab_of_laid {W : World} (h : laidMetH Tryd.prog laidT W) : TabW W := by
  rw [MakeChecks.laidMetH_plain _ _ _ (by kernel_rfl)] at h
  obtain ⟨ps, ⟨g0, t0, cs0, f0, p0, q0, hg0, ht0, hv0, hd0, ⟨g1, t1, cs1, f1, p1, q1, hg1, ht1, hv1, hd1, _, _⟩, _⟩, _, _⟩ := h
  obtain rfl := Option.some.inj (g64.symm.trans hg1)
  obtain rfl := Option.some.inj (ty64.symm.trans ht1)
  obtain ⟨xs, m, -, hx, hlen, hn, hel⟩ := DataW.trod_array Tryd.underlying94 hd1
  simp only [Prod.mk.injEq, Rows.laid_math_bits_deBruijn64tab, DataW.agg.injEq] at hx
  have key : ∀ (k : Nat) (n : Int), k < 64 → (xs.map (·.1))[k]? = some (.lit (.int .u8 n)) → W.cell? ⟨1, k, none⟩ = some (.int .u8 n) := fun k n hk hxk => by
    have e := hel k hk
    rw [List.getElem?_map] at hxk
    cases hq : xs[k]? with
    | none => rw [hq] at hxk; cases hxk
    | some y =>
      rw [hq] at e hxk
      obtain ⟨n', e1, e2, -⟩ := DataW.trod_int Tryd.underlying5 e
      rw [e2] at hxk
      simp at hxk
      subst hxk
      rw [c8] at e1
      have h2 := cell_at e1
      have := World.var?_cell hg1 hv1 k
      rw [this]
      obtain ⟨l⟩ := cs1
      simpa using h2
  refine ⟨key 0 0 (by decide) ?_, key 1 1 (by decide) ?_, key 3 2 (by decide) ?_, key 7 3 (by decide) ?_, key 15 4 (by decide) ?_⟩
  all_goals rw [← hx.1]; rfl
end Go.Proofs.YtlaamecfknkmlaaDoor
