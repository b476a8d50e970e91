/- Merged texts: contracts and plain lemmas (Hb). -/
import Derived.Test.YtlaamecfknkmlaaGreatGrRg
import Derived.Deep.RegionHeld3
import Derived.Lib.QuietBelow
/- What stands at every call of a drawn statement that holds a model's box. -/
namespace Go.Proofs.YtlaamecfknkmlaaGreat
set_option linter.unusedVariables false
open Go.RowKit Go.Kt Go.Sort
theorem rowsF_relH {sn P Q : Nat} {ll : List (List Int)} {l : List Int} (hv : mvB sn P Q ll = true) (hs : kvB l = true) : Rel sn (rowsF sn P Q ll l) := by
  have HF : rowsF sn P Q ll l = (treeOf l).rows P Q sn ll := by unfold rowsF; rw [hv, hs, Int.toNat_natCast]; rfl
  rw [HF]
  obtain ⟨s', P', Q', e1, e2, e3, b1, b2, b3, b4, b5, b6, b7, b8⟩ := mvB_bounds hv
  obtain rfl : sn = s' := by omega
  exact Kt.rows_rel P Q sn ll (by omega) (fun i hi => rvB_relK (b8 i hi)) _ (treeOf_valid hs).1
theorem wp_region_below_lit {P : Program} {id : Nat} {Q : Exit → Act → World → Prop} {a : Act} {w : World} {ops : Array Oper} (hm : P.follows .mixedOrders = true) (hB : Region.lexB .any ops = true)
    (h : wpQuiet P ops (fun w' => ∃ p : Regrown, w' = grow (redrawn w p.d) p.os) (fun a' => ∀ w', (∃ p : Regrown, w' = grow (redrawn w p.d) p.os) → Q .normal a' w') ops.toList a) : (Code.region id ops true).wp P Q a w := by
  obtain ⟨l⟩ := ops
  exact wp_region_quiet_below hm hB h
/-- What stands at every call of the last statement. -/
abbrev HeldB (z : Nat) (st p q : Int) (v : Value) (w5 w' : World) : Prop := (w'.cell? ⟨z, 0, none⟩ = some (.int .i64 st) ∧ w'.cell? ⟨z, 1, none⟩ = some (.int .i64 p) ∧ w'.cell? ⟨z, 2, none⟩ = some (.int .i64 q) ∧ w'.cell? ⟨z, 3, none⟩ = some v) ∧ Ext w5 w'
theorem HeldB.more {z : Nat} {st p q : Int} {v : Value} {w5 w w' : World} (h : HeldB z st p q v w5 w) (e : Ext w w') : HeldB z st p q v w5 w' :=
  ⟨BoxM.ext (show BoxM w z st p q v from h.1) e, h.2.trans e⟩
theorem HeldB.start {z : Nat} {st p q : Int} {v : Value} {w5 w' : World} (h : BoxM w5 z st p q v) (e : Ext w5 w') : HeldB z st p q v w5 w' := ⟨h.ext e, e⟩
end Go.Proofs.YtlaamecfknkmlaaGreat
