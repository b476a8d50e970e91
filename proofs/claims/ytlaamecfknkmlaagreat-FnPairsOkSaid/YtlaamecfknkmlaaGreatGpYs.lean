/- Merged texts: contracts and plain lemmas (Ys). -/
import Derived.Test.YtlaamecfknkmlaaGreatGpYr
namespace Go.Proofs.YtlaamecfknkmlaaGreat
set_option linter.unusedVariables false
open Go.RowKit Go.Kt

def DrewBy (w : World) (e : Ending) (w' : World) : Prop :=
  ∃ (v1 v2 : Value) (L1 L2 : List Int), e = .returned (.tuple #[v1, v2]) ∧ OwnI w' w.heap.size 3 v1 L1 ∧ OwnI w' w.heap.size 3 v2 L2 ∧ L1.length ≤ 41 ∧ L2.length ≤ 43 ∧ Ext w w'
theorem drawTraceBy_c (a : Option Addr) (cap : Nat) (l : List Int) (w : World) (h : BytesAt w a l) (hlen : l.length ≤ 1048576) (hcap : l.length ≤ cap) :
    Calls Tryz.prog 14 #[.slice a l.length cap] w (DrewBy w) := by
  go_enter Tryz.func14, Tryz.ntmps14
  go_wp2_with fail
  refine (l20Open_c a cap l _ (h.ext (by (repeat (first | exact Ext.refl _ | assumption | refine Ext.alloc ?_ _ | refine Ext.drewN ?_ _ | refine Ext.drew ?_)))) hlen hcap).mono ?_
  rintro e w1 ⟨g, rfl, hg, hr0, hx0⟩
  have hz0 := hx0.size
  go_wp2_with fail
  refine (l20Told_c g 0 5 _ (hr0.ext (by (repeat (first | exact Ext.refl _ | assumption | refine Ext.alloc ?_ _ | refine Ext.drewN ?_ _ | refine Ext.drew ?_)))) (by omega) (by omega)).mono ?_
  rintro e w2 ⟨v1, v2, L1, L2, rfl, o1, o2, h1, h2, hr2, ht2⟩
  have hz2 := ht2.size
  go_wp2
  go_ret2
  exact ⟨v1, v2, L1, L2, rfl, o1.mono (by (try simp); omega), o2.mono (by (try simp); omega), h1, h2, ht2.ext (Ext.trans hx0 (by (repeat (first | exact Ext.refl _ | assumption | refine Ext.alloc ?_ _ | refine Ext.drewN ?_ _ | refine Ext.drew ?_)))) (by omega)⟩
end Go.Proofs.YtlaamecfknkmlaaGreat
