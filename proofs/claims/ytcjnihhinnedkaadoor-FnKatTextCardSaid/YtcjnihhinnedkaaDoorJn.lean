/- Contracts: expressions put together, in the reference. -/
import Derived.Test.YtcjnihhinnedkaaDoorKa
import Derived.Test.YtcjnihhinnedkaaDoorI
import Derived.Test.YtcjnihhinnedkaaDoorAny
namespace Go.Proofs.YtcjnihhinnedkaaDoor
set_option linter.unusedVariables false
open Go.RowKit Go.Kt

theorem named (l : List Int) : ∃ L : List Int, Hid (L = l) ∧ L.length = l.length := ⟨l, rfl, rfl⟩
theorem l2Join_c (a b : Option Addr) (ca cb : Nat) (la lb : List Int) (s : Int) (w : World) (ha : IntsAt w a la) (hb : IntsAt w b lb) (hla : la.length ≤ 1048576) (hlb : lb.length ≤ 1048576) :
    Calls Tryd.prog 39 #[.slice a la.length ca, .slice b lb.length cb, .int .i64 s] w (RetI 3 w (la ++ lb ++ [s])) := by
  have HA := Lib.hid ha
  have HB := Lib.hid hb
  clear ha hb
  go_enter Tryd.func39, Tryd.ntmps39
  go_wp2_with (at_builtin; refine any_append_ints (by rfl) _ _ _ rfl (w.heap.size) 3 Tryd.underlying22 infoInt _ ([]) rfl (by first | exact OwnI.empty _ _ | exact (OwnI.empty _ _).ext (by (repeat (first | exact Ext.refl _ | assumption | refine Ext.alloc ?_ _ | refine Ext.drewN ?_ _ | refine Ext.drew ?_)))) _ _ (la) rfl (HA.out.ext (by (repeat (first | exact Ext.refl _ | assumption | refine Ext.alloc ?_ _ | refine Ext.drewN ?_ _ | refine Ext.drew ?_)))) (by first | omega | (simp; omega)) (by first | omega | (simp; done) | (simp; omega)) ?_)
  intro v1 w1 o1 g1
  have hx1 := Lib.hid (Ext.rowOf (w0 := w) (show Ext w _ by (repeat (first | exact Ext.refl _ | assumption | refine Ext.alloc ?_ _ | refine Ext.drewN ?_ _ | refine Ext.drew ?_))) g1 (Nat.le_refl _))
  obtain ⟨a1, c1, rfl, -⟩ := o1.shape
  have O1 := Lib.hid o1
  have hz1 := hx1.out.size
  clear o1 g1
  go_wp2_with (at_builtin; refine any_append_ints (by rfl) _ _ _ rfl (w.heap.size) 3 Tryd.underlying22 infoInt _ (_) rfl (O1.out.ext (by (repeat (first | exact Ext.refl _ | assumption | refine Ext.alloc ?_ _ | refine Ext.drewN ?_ _ | refine Ext.drew ?_)))) _ _ (lb) rfl (HB.out.ext (by first | exact hx1.out | exact hx1.out.trans (by (repeat (first | exact Ext.refl _ | assumption | refine Ext.alloc ?_ _ | refine Ext.drewN ?_ _ | refine Ext.drew ?_))))) (by first | omega | (simp; omega)) (by first | omega | (simp; done) | (simp; omega)) ?_)
  intro v2 w2 o2 g2
  have hx2 := Lib.hid (Ext.row (hx1.out.trans (by (repeat (first | exact Ext.refl _ | assumption | refine Ext.alloc ?_ _ | refine Ext.drewN ?_ _ | refine Ext.drew ?_)))) g2 (fun k hk => (World.ownsRow.lt O1.out k hk).1))
  obtain ⟨L2, hL2, hl2⟩ := named (la ++ lb)
  rw [← hL2.out] at o2
  rw [List.length_append] at hl2
  have hl2' : L2.length ≤ 2097152 := by omega
  clear hl2
  obtain ⟨a2, c2, rfl, -⟩ := o2.shape
  have O2 := Lib.hid o2
  have hz2 := hx2.out.size
  clear o2 g2
  go_wp2_with (at_builtin; refine any_append_ints (by rfl) _ _ _ rfl (w.heap.size) 3 Tryd.underlying22 infoInt _ (_) rfl (O2.out.ext (by (repeat (first | exact Ext.refl _ | assumption | refine Ext.alloc ?_ _ | refine Ext.drewN ?_ _ | refine Ext.drew ?_)))) _ _ ([s]) rfl (by first | exact (OwnI.lit1 _ _ _ _ (Nat.le_refl _)).ints | exact ((OwnI.lit1 _ _ _ _ (Nat.le_refl _)).ints).ext (by (repeat (first | exact Ext.refl _ | assumption | refine Ext.alloc ?_ _ | refine Ext.drewN ?_ _ | refine Ext.drew ?_)))) (by first | omega | (simp; omega)) (by first | omega | (simp; done) | (simp; omega)) ?_)
  intro v3 w3 o3 g3
  have hx3 := Lib.hid (Ext.row (hx2.out.trans (by (repeat (first | exact Ext.refl _ | assumption | refine Ext.alloc ?_ _ | refine Ext.drewN ?_ _ | refine Ext.drew ?_)))) g3 (fun k hk => (World.ownsRow.lt O2.out k hk).1))
  obtain ⟨L3, hL3, -⟩ := named (L2 ++ [s])
  rw [← hL3.out] at o3
  obtain ⟨a3, c3, rfl, -⟩ := o3.shape
  have O3 := Lib.hid o3
  clear o3 g3
  go_wp2
  go_ret
  exact ⟨_, rfl, by rw [← hL2.out, ← hL3.out]; exact O3.out, hx3.out.trans (by (repeat (first | exact Ext.refl _ | assumption | refine Ext.alloc ?_ _ | refine Ext.drewN ?_ _ | refine Ext.drew ?_)))⟩
/-- What a call that makes an expression, and a truth, comes to. -/
def RetIB (w : World) (l : List Int) (ok : Bool) (e : Ending) (w' : World) : Prop := ∃ v, e = .returned (.tuple #[v, .bool ok]) ∧ OwnI w' w.heap.size 3 v l ∧ Ext w w'
/-- An expression, and whether it is valid; no expression if it is not. -/
def keepL (b : Bool) (l : List Int) : List Int := if b then l else []
theorem keepL_len (b : Bool) (l : List Int) (h : b = true → l.length ≤ 40) : (keepL b l).length ≤ 40 := by
  cases b
  · simp [keepL]
  · simpa [keepL] using h rfl
def RetV (w : World) (b : Bool) (l : List Int) (e : Ending) (w' : World) : Prop := RetIB w (keepL b l) b e w'
theorem RetV.yes {w w' : World} {l : List Int} {e : Ending} {v : Value} (he : e = .returned (.tuple #[v, .bool true])) (ho : OwnI w' w.heap.size 3 v l) (hx : Ext w w') : RetV w true l e w' := ⟨v, he, ho, hx⟩
theorem RetV.no {w w' : World} {l : List Int} {e : Ending} {v : Value} (he : e = .returned (.tuple #[v, .bool false])) (ho : OwnI w' w.heap.size 3 v []) (hx : Ext w w') : RetV w false l e w' := ⟨v, he, ho, hx⟩
end Go.Proofs.YtcjnihhinnedkaaDoor
