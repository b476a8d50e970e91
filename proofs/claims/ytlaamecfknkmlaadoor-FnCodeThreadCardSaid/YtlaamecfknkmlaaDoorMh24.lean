/- Merged texts: contracts and plain lemmas (Jn). -/
import Derived.Test.YtlaamecfknkmlaaDoorMh20
import Derived.Test.YtlaamecfknkmlaaDoorMh23
import Derived.Test.YtlaamecfknkmlaaDoorMh14
/- Contracts: expressions put together, in the reference. -/
namespace Go.Proofs.YtlaamecfknkmlaaDoor
set_option linter.unusedVariables false
open Go.RowKit Go.Kt

theorem named (l : List Int) : ∃ L : List Int, Hid (L = l) ∧ L.length = l.length := ⟨l, rfl, rfl⟩
/-- What a call that makes an expression, and a truth, comes to. -/
def RetIB (w : World) (l : List Int) (ok : Bool) (e : Ending) (w' : World) : Prop := ∃ v, e = .returned (.tuple #[v, .bool ok]) ∧ OwnI w' w.heap.size 3 v l ∧ Ext w w'
/-- An expression, and whether it is valid; no expression if it is not. -/
def keepL (b : Bool) (l : List Int) : List Int := if b then l else []
theorem keepL_len (b : Bool) (l : List Int) (h : b = true → l.length ≤ 40) : (keepL b l).length ≤ 40 := by
  cases b
  · simp [keepL]
  · simpa [keepL] using h rfl
def RetV (w : World) (b : Bool) (l : List Int) (e : Ending) (w' : World) : Prop := RetIB w (keepL b l) b e w'
theorem RetV.yes {w w' : World} {l : List Int} {e : Ending} {v : Value} (he : e = .returned (.tuple #[v, .bool true])) (ho : OwnI w' w.heap.size 3 v l) (hx : Ext w w') : RetV w true l e w' := ⟨v, he, ho, hx⟩
theorem RetV.no {w w' : World} {l : List Int} {e : Ending} {v : Value} (he : e = .returned (.tuple #[v, .bool false])) (ho : OwnI w' w.heap.size 3 v []) (hx : Ext w w') : RetV w false l e w' := ⟨v, he, ho, hx⟩
end Go.Proofs.YtlaamecfknkmlaaDoor
