/- Merged texts: contracts and plain lemmas (Vd). -/
import Derived.Test.YtlaamecfknkmlaaDoorMh17
import Derived.Test.YtlaamecfknkmlaaDoorMh27
import Derived.Test.YtlaamecfknkmlaaDoorMh37
/- Contracts: a certain model, a code and a state drawn. -/
namespace Go.Proofs.YtlaamecfknkmlaaDoor
set_option linter.unusedVariables false
open Go.RowKit Go.Kt

/-- What drawing them comes to: of the code and the state nothing is told. -/
def DrewCR (w : World) (e : Ending) (w' : World) : Prop :=
  ∃ (st : Nat) (p q : Int) (a : Option Addr) (cap : Nat) (ll : List (List Int)) (v : Value) (x : Int), e = .returned (.tuple #[modelV st p q a ll.length cap, v, .int .i64 x]) ∧ st ≤ 5 ∧ RowsAt w' a ll ∧ ll.length ≤ 3 ∧ (∀ i, i < ll.length → (rowI ll i).length ≤ 8) ∧ Ext w w'
set_option maxRecDepth 100000 in
set_option maxHeartbeats 1000000 in
theorem drawCodeRun_c (a : Option Addr) (cap : Nat) (l : List Int) (w : World) (h : BytesAt w a l) (hlen : l.length ≤ 1048576) (hcap : l.length ≤ cap) :
    Calls Tryd.prog 17 #[.slice a l.length cap] w (DrewCR w) := by
  go_enter Tryd.func17, Tryd.ntmps17
  go_wp2_with fail
  refine (l20Open_c a cap l _ (h.ext (by (repeat (first | exact Ext.refl _ | assumption | refine Ext.alloc ?_ _ | refine Ext.drewN ?_ _ | refine Ext.drew ?_)))) hlen hcap).mono ?_
  rintro e w1 ⟨g, rfl, hg, hr0, hx0⟩
  have hg1 := hr0.lt
  have hz0 := hx0.size
  simp only [World.size_alloc] at hz0 hg
  have hb := Lib.hid ((box_zero w 25).ext hx0)
  have ht := Lib.hid ((thaw_zero w #[.int .i64 0, .int .i64 0, .int .i64 0, .slice none 0 0] 25).ext hx0)
  have HXW := Lib.hid (Ext.trans (show Ext w _ by (repeat (first | exact Ext.refl _ | assumption | refine Ext.alloc ?_ _ | refine Ext.drewN ?_ _ | refine Ext.drew ?_))) hx0)
  clear hx0
  go_wp2_with fail
  refine (l20Certain_c g 0 _ (hr0.ext (by (repeat (first | exact Ext.refl _ | assumption | refine Ext.alloc ?_ _ | refine Ext.drewN ?_ _ | refine Ext.drew ?_)))) (by omega)).mono ?_
  rintro e w2 ⟨st, p, q, a2, c2, ll, rfl, hst, hrw, h3, h8, hr2, htc⟩
  have hb2 := Lib.hid (hb.out.untouched htc (.inl (by omega)))
  have ht2 := Lib.hid (ht.out.untouched htc (.inl (by omega)))
  have zz2 := htc.size
  have HX2 := Lib.hid (htc.ext HXW.out (by omega))
  have HR2 := Lib.hid hr2
  have HRW2 := Lib.hid hrw
  clear htc hr2 hrw hb ht HXW
  have hws : IntKind.i64.wrap ((st : Int) + 1) = ((st + 1 : Nat) : Int) := by rw [IntWalk.i64_in _ (by omega)]; omega
  go_wp2
  have HBM := Lib.hid (box_made w2 25 st p q (.slice a2 ll.length c2))
  have zz3 : w.heap.size < w2.heap.size := by omega
  have zz4 : w.heap.size < w2.heap.size + 1 := by omega
  have hk2 := keepMd0 HBM.out ht2.out
  have hne1 : ¬ w.heap.size = w2.heap.size := by omega
  have hne2 : ¬ w2.heap.size = w.heap.size := by omega
  go_region_held3 (fun w' => w'.cell? ⟨w2.heap.size, 0, none⟩ = some (.int .i64 st) ∧ w'.cell? ⟨w2.heap.size, 1, none⟩ = some (.int .i64 p) ∧ w'.cell? ⟨w2.heap.size, 2, none⟩ = some (.int .i64 q) ∧ w'.cell? ⟨w2.heap.size, 3, none⟩ = some (.slice a2 ll.length c2) ∧ w'.frozen? ⟨w.heap.size, 0, none⟩ = false ∧ w'.frozen? ⟨w.heap.size, 1, none⟩ = false ∧ w'.frozen? ⟨w.heap.size, 2, none⟩ = false ∧ w'.frozen? ⟨w.heap.size, 3, none⟩ = false ∧ w.heap.size < w'.heap.size)
    (first
      | go_keep
      | exact hk5
      | exact hk4
      | exact hk3
      | exact hk2)
    ((first
      | (go_at_call 37; have _t := hk4; refine (pick_c g _ _ _ (hr4.out.ext (by (repeat (first | exact Ext.refl _ | assumption | refine Ext.alloc ?_ _ | refine Ext.drewN ?_ _ | refine Ext.drew ?_)))) (by omega)).mono ?_; rintro e w5 ⟨x5, rfl, hx5, hr5', ht5⟩
         have hk5 := keepMd hk4 (by (repeat (first | exact Ext.refl _ | assumption | refine Ext.alloc ?_ _ | refine Ext.drewN ?_ _ | refine Ext.drew ?_))) ht5 (by omega) (by omega)
         obtain ⟨d5, hd5, hyd5⟩ : ∃ d : Nat, d ≤ 1 ∧ ((x5 : Int)).tdiv 29 = (d : Int) := ⟨x5 / 29, by omega, rfl⟩
         have hbr5 := BoxM.untouched (BoxM.ext hbr4.out (by (repeat (first | exact Ext.refl _ | assumption | refine Ext.alloc ?_ _ | refine Ext.drewN ?_ _ | refine Ext.drew ?_)))) ht5 (.inl (by omega))
         obtain ⟨r0, r1, r2, r3⟩ := hbr5.out
         have KT5 : Hid (Touched w2 w5 g (g + 1)) := Touched.trans (KT4.out) (Touched.trans (Touched.of_ext (by (repeat (first | exact Ext.refl _ | assumption | refine Ext.alloc ?_ _ | refine Ext.drewN ?_ _ | refine Ext.drew ?_)))) ht5)
         have hx4' : (x4 : Int) ≤ 6 := by omega
         have hd5' : (d5 : Int) ≤ 1 := by omega
         have hq5 : IntKind.i64.wrap (d5 : Int) = (d5 : Int) := IntWalk.i64_in _ (by omega)
         have hq6 : IntKind.i64.wrap ((x4 : Int) - (d5 : Int)) = (x4 : Int) - (d5 : Int) := IntWalk.i64_in _ (by omega)
         clear hr5' ht5)
      | (go_at_call 37; have _t := hk3; refine (pick_c g _ _ _ (hr3.out.ext (by (repeat (first | exact Ext.refl _ | assumption | refine Ext.alloc ?_ _ | refine Ext.drewN ?_ _ | refine Ext.drew ?_)))) (by omega)).mono ?_; rintro e w4 ⟨x4, rfl, hx4, hr4', ht4⟩
         have hk4 := keepMd hk3 (by (repeat (first | exact Ext.refl _ | assumption | refine Ext.alloc ?_ _ | refine Ext.drewN ?_ _ | refine Ext.drew ?_))) ht4 (by omega) (by omega)
         have hbr4 := Lib.hid (BoxM.untouched (BoxM.ext hbr3.out (by (repeat (first | exact Ext.refl _ | assumption | refine Ext.alloc ?_ _ | refine Ext.drewN ?_ _ | refine Ext.drew ?_)))) ht4 (.inl (by omega)))
         have hr4 := Lib.hid hr4'
         have KT4 : Hid (Touched w2 w4 g (g + 1)) := Touched.trans (KT3.out) (Touched.trans (Touched.of_ext (by (repeat (first | exact Ext.refl _ | assumption | refine Ext.alloc ?_ _ | refine Ext.drewN ?_ _ | refine Ext.drew ?_)))) ht4)
         clear hr4' ht4)
      | (go_at_call 31; refine (l20Instructions_c g _ 12 _ (HR2.out.ext (by (repeat (first | exact Ext.refl _ | assumption | refine Ext.alloc ?_ _ | refine Ext.drewN ?_ _ | refine Ext.drew ?_)))) (by decide)).mono ?_; rintro e w3 ⟨v3, n3, L3, rfl, o3, hl3, hr3', ht3⟩
         have hk3 := keepMd hk2 (by (repeat (first | exact Ext.refl _ | assumption | refine Ext.alloc ?_ _ | refine Ext.drewN ?_ _ | refine Ext.drew ?_))) ht3 (by omega) (by omega)
         have hbr3 := Lib.hid (BoxM.untouched (BoxM.ext hb2.out (by (repeat (first | exact Ext.refl _ | assumption | refine Ext.alloc ?_ _ | refine Ext.drewN ?_ _ | refine Ext.drew ?_)))) ht3 (.inl (by omega)))
         have hr3 := Lib.hid hr3'
         have KT3 : Hid (Touched w2 w3 g (g + 1)) := Touched.trans (Touched.of_ext (Ext.refl w2)) (Touched.trans (Touched.of_ext (by (repeat (first | exact Ext.refl _ | assumption | refine Ext.alloc ?_ _ | refine Ext.drewN ?_ _ | refine Ext.drew ?_)))) ht3)
         clear hr3' ht3 o3)))
  all_goals
    go_wp2
    refine bodyPost_ret (v := .tuple #[modelV st p q a2 ll.length c2, v3, .int .i64 ((x4 : Int) - (d5 : Int))]) (by simp [results, Tryd.results17, go_sem, r0, r1, r2, r3]) rfl ?_
    have hst6 : Touched w5 ((((w5.setCell ⟨w.heap.size, 0, none⟩ (.int .i64 st)).setCell ⟨w.heap.size, 1, none⟩ (.int .i64 p)).setCell ⟨w.heap.size, 2, none⟩ (.int .i64 q)).setCell ⟨w.heap.size, 3, none⟩ (.slice a2 ll.length c2)) w.heap.size (w.heap.size + 1) := by
      (repeat (first | exact Touched.refl _ _ _ | refine Touched.setIn ?_ (by dsimp only; omega) (by dsimp only; omega) _))
    exact ⟨st, p, q, a2, c2, ll, v3, _, rfl, hst, ((HRW2.out.untouched KT5.out (by omega)).untouched hst6 (by omega)).rows, h3, h8, hst6.ext (KT5.out.ext HX2.out (by omega)) (Nat.le_refl _)⟩
end Go.Proofs.YtlaamecfknkmlaaDoor
