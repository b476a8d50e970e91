/- Merged texts: contracts and plain lemmas (Yt). -/
import Derived.Test.YtlaamecfknkmlaaGreatGu18
import Derived.Test.YtlaamecfknkmlaaGreatGu22
/- Contracts: a model and a trace drawn from bytes. -/
namespace Go.Proofs.YtlaamecfknkmlaaGreat
set_option linter.unusedVariables false
open Go.RowKit Go.Kt

def DrewMt (w : World) (e : Ending) (w' : World) : Prop :=
  ∃ (st : Nat) (p q : Int) (a : Option Addr) (cap : Nat) (ll : List (List Int)) (v : Value) (L : List Int), e = .returned (.tuple #[modelV st p q a ll.length cap, v]) ∧ st ≤ 5 ∧ RowsAt w' a ll ∧ ll.length ≤ cap ∧ ll.length ≤ 3 ∧ (∀ i, i < ll.length → (rowI ll i).length ≤ 8) ∧ OwnI w' w.heap.size 3 v L ∧ L.length ≤ 43 ∧ Ext w w'
set_option maxHeartbeats 1000000 in
theorem drawTraceRows_c (a : Option Addr) (cap : Nat) (l : List Int) (w : World) (h : BytesAt w a l) (hlen : l.length ≤ 1048576) (hcap : l.length ≤ cap) :
    Calls Tryz.prog 30 #[.slice a l.length cap] w (DrewMt w) := by
  go_enter Tryz.func30, Tryz.ntmps30
  go_wp2_with fail
  refine (l20Open_c a cap l _ (h.ext (by (repeat (first | exact Ext.refl _ | assumption | refine Ext.alloc ?_ _ | refine Ext.drewN ?_ _ | refine Ext.drew ?_)))) hlen hcap).mono ?_
  rintro e w1 ⟨g, rfl, hg, hr0, hx0⟩
  have hg1 := hr0.lt
  have hz0 := hx0.size
  simp only [World.size_alloc] at hz0 hg
  have hb := Lib.hid ((box_zero w 37).ext hx0)
  have ht := Lib.hid ((thaw_zero w #[.int .i64 0, .int .i64 0, .int .i64 0, .slice none 0 0] 37).ext hx0)
  have hxw := Ext.trans (show Ext w _ by (repeat (first | exact Ext.refl _ | assumption | refine Ext.alloc ?_ _ | refine Ext.drewN ?_ _ | refine Ext.drew ?_))) hx0
  clear hx0
  go_wp2_with fail
  refine (l20Model_c g 0 12 _ (hr0.ext (by (repeat (first | exact Ext.refl _ | assumption | refine Ext.alloc ?_ _ | refine Ext.drewN ?_ _ | refine Ext.drew ?_)))) (by omega)).mono ?_
  rintro e w2 ⟨st, p, q, a2, c2, ll, rfl, hst, hrw, hlc, h3, h8, hr2, htc⟩
  have hb2 := Lib.hid (hb.out.untouched htc (.inl (by omega)))
  have ht2 := Lib.hid (ht.out.untouched htc (.inl (by omega)))
  have zz2 := htc.size
  have hx2 := htc.ext hxw (by omega)
  have HR2 := Lib.hid hr2
  have HRW2 := Lib.hid hrw
  have HX2 := Lib.hid hx2
  clear htc hxw hr2 hrw hx2
  go_wp2
  go_region_law ((
       go_simp; go_at_call 98; refine (l20Trace_c g _ 4 12 _ (HR2.out.ext (by (repeat (first | exact Ext.refl _ | assumption | refine Ext.alloc ?_ _ | refine Ext.drewN ?_ _ | refine Ext.drew ?_)))) (by omega) (by omega)).mono ?_; rintro e w3 ⟨v3, L3, rfl, o3, hl3, hr3, ht3⟩
       have hbx3 := BoxM.untouched (BoxM.ext (box_made w2 37 st p q (.slice a2 ll.length c2)) (by (repeat (first | exact Ext.refl _ | assumption | refine Ext.alloc ?_ _ | refine Ext.drewN ?_ _ | refine Ext.drew ?_)))) ht3 (.inr (by omega))
       have k3 := hbx3.out
       have hb3 := BoxM.untouched (BoxM.ext hb2.out (by (repeat (first | exact Ext.refl _ | assumption | refine Ext.alloc ?_ _ | refine Ext.drewN ?_ _ | refine Ext.drew ?_)))) ht3 (.inl (by omega))
       have kr := hb3.out
       have hth3 := Thawed.untouched (Thawed.ext ht2.out (by (repeat (first | exact Ext.refl _ | assumption | refine Ext.alloc ?_ _ | refine Ext.drewN ?_ _ | refine Ext.drew ?_)))) ht3 (.inl (by omega))
       have fr := hth3.2
       have zr := hth3.1
       have hz3 : w2.heap.size < w3.heap.size := hbx3.lt
       have O3 : Hid (OwnI w3 (w.heap.size + 1) 3 v3 L3) := OwnI.mono o3 (by (try simp); omega)
       have hx3 := Lib.hid (ht3.ext (Ext.trans HX2.out (by (repeat (first | exact Ext.refl _ | assumption | refine Ext.alloc ?_ _ | refine Ext.drewN ?_ _ | refine Ext.drew ?_)))) (by omega))
       have hrw3 := Lib.hid (((HRW2.out.ext (by (repeat (first | exact Ext.refl _ | assumption | refine Ext.alloc ?_ _ | refine Ext.drewN ?_ _ | refine Ext.drew ?_)))).mono (B' := g + 1) (by omega)).untouched ht3 (Nat.le_refl _))
       clear ht3 hbx3 hb3 hth3 o3 hr3))
  all_goals
    go_wp2
    refine bodyPost_ret (v := .tuple #[modelV st p q a2 ll.length c2, v3]) (by simp [results, Tryz.results30, go_sem, kr]) rfl ?_
    have htw : Touched w3 ((((w3.setCell ⟨w.heap.size, 0, none⟩ (.int .i64 st)).setCell ⟨w.heap.size, 1, none⟩ (.int .i64 p)).setCell ⟨w.heap.size, 2, none⟩ (.int .i64 q)).setCell ⟨w.heap.size, 3, none⟩ (.slice a2 ll.length c2)) w.heap.size (w.heap.size + 1) := by
      (repeat (first | exact Touched.refl _ _ _ | refine Touched.setIn ?_ (by dsimp only; omega) (by dsimp only; omega) _))
    have hfin := drawn_rows hx3.out (hrw3.out.mono (by omega)) htw
    exact ⟨st, p, q, a2, c2, ll, v3, L3, rfl, hst, hfin.1, hlc, h3, h8, (OwnI.drawn O3.out htw (by omega)).mono (by omega), hl3, hfin.2⟩
end Go.Proofs.YtlaamecfknkmlaaGreat
