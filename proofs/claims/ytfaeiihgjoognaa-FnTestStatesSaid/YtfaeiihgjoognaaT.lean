/- Contracts: the draws of rows. -/
import Derived.Test.YtfaeiihgjoognaaS
namespace Go.Proofs.Ytfaeiihgjoognaa
set_option linter.unusedVariables false
open Go.RowKit Go.Kt

/-- What drawing a number of states and two rows comes to. -/
def Drew2 (w : World) (g m : Nat) (e : Ending) (w' : World) : Prop :=
  ∃ (s : Nat) (v1 v2 : Value) (L1 L2 : List Int), e = .returned (.tuple #[.int .i64 s, v1, v2]) ∧ s ≤ 5 ∧ OwnI w' w.heap.size 3 v1 L1 ∧ OwnI w' w.heap.size 3 v2 L2 ∧ L1.length ≤ 6 ∧ L2.length ≤ 6 ∧ Rd w' g (m + 300) ∧ Touched w w' g (g + 1)
set_option maxHeartbeats 1000000 in
theorem l20Row2_c (g m : Nat) (w : World) (h : Rd w g m) (hm : m ≤ 50000) :
    Calls Try.prog 80 #[.pointer (some ⟨g, 0, none⟩)] w (Drew2 w g m) := by
  have hg := h.lt
  have HH := Lib.hid h
  clear h
  go_enter Try.func80, Try.ntmps80
  go_wp2_with fail
  refine (pick_c g m 5 _ HH.out (by omega)).mono ?_
  rintro e w1 ⟨x, rfl, hx, hr1, ht1⟩
  have hz1 := ht1.size
  have hxs : (1 : Int) + (x : Int) = ((x + 1 : Nat) : Int) := by omega
  have hwr : IntKind.i64.wrap (1 + (x : Int)) = ((x + 1 : Nat) : Int) := by rw [IntWalk.i64_in _ (by omega)]; exact hxs
  clear hxs
  go_wp2_with fail
  refine (l20Rows_c g _ (x + 1) 12 _ (hr1.ext (by (repeat (first | exact Ext.refl _ | assumption | refine Ext.alloc ?_ _ | refine Ext.drewN ?_ _ | refine Ext.drew ?_)))) (by omega) (by omega) (by omega)).mono ?_
  rintro e w2 ⟨v1, L1, rfl, o1, -, n1, hr2, ht2⟩
  have hz2 := ht2.size
  replace ht2 := ht1.trans (Touched.trans (Touched.of_ext (by (repeat (first | exact Ext.refl _ | assumption | refine Ext.alloc ?_ _ | refine Ext.drewN ?_ _ | refine Ext.drew ?_)))) ht2)
  go_wp2_with fail
  refine (l20Rows_c g _ (x + 1) 12 _ (hr2.ext (by (repeat (first | exact Ext.refl _ | assumption | refine Ext.alloc ?_ _ | refine Ext.drewN ?_ _ | refine Ext.drew ?_)))) (by omega) (by omega) (by omega)).mono ?_
  rintro e w3 ⟨v2, L2, rfl, o2, -, n2, hr3, ht3⟩
  have hz3 := ht3.size
  replace o1 := OwnI.drawn (o1.ext (by (repeat (first | exact Ext.refl _ | assumption | refine Ext.alloc ?_ _ | refine Ext.drewN ?_ _ | refine Ext.drew ?_)))) ht3 (by omega)
  replace ht3 := ht2.trans (Touched.trans (Touched.of_ext (by (repeat (first | exact Ext.refl _ | assumption | refine Ext.alloc ?_ _ | refine Ext.drewN ?_ _ | refine Ext.drew ?_)))) ht3)
  go_wp2
  go_ret3
  exact ⟨x + 1, v1, v2, L1, L2, rfl, by omega, o1.mono (by omega), o2.mono (by omega), by omega, by omega, hr3.mono (by omega), ht3⟩
/-- What drawing rows from bytes comes to. -/
def DrewR (w : World) (e : Ending) (w' : World) : Prop :=
  ∃ (s : Nat) (v : Value) (L : List Int), e = .returned (.tuple #[.int .i64 s, v]) ∧ s ≤ 6 ∧ OwnI w' w.heap.size 3 v L ∧ L.length ≤ 7 ∧ Ext w w'
def DrewRR (w : World) (e : Ending) (w' : World) : Prop :=
  ∃ (s : Nat) (v1 v2 : Value) (L1 L2 : List Int), e = .returned (.tuple #[.int .i64 s, v1, v2]) ∧ s ≤ 5 ∧ OwnI w' w.heap.size 3 v1 L1 ∧ OwnI w' w.heap.size 3 v2 L2 ∧ L1.length ≤ 6 ∧ L2.length ≤ 6 ∧ Ext w w'
theorem drawRowsValid_c (a : Option Addr) (cap : Nat) (l : List Int) (w : World) (h : BytesAt w a l) (hlen : l.length ≤ 1048576) (hcap : l.length ≤ cap) :
    Calls Try.prog 26 #[.slice a l.length cap] w (DrewR w) := by
  go_enter Try.func26, Try.ntmps26
  go_wp2_with fail
  refine (l20Open_c a cap l _ (h.ext (by (repeat (first | exact Ext.refl _ | assumption | refine Ext.alloc ?_ _ | refine Ext.drewN ?_ _ | refine Ext.drew ?_)))) hlen hcap).mono ?_
  rintro e w1 ⟨g, rfl, hg, hr0, hx0⟩
  have hg1 := hr0.lt
  go_wp2_with fail
  refine (pick_c g 0 5 _ (hr0.ext (by (repeat (first | exact Ext.refl _ | assumption | refine Ext.alloc ?_ _ | refine Ext.drewN ?_ _ | refine Ext.drew ?_)))) (by omega)).mono ?_
  rintro e w2 ⟨x, rfl, hx, hr1, ht1⟩
  have hz1 := ht1.size
  replace ht1 := Touched.trans (Touched.of_ext (B := g) (T := g + 1) (w := w1) (by (repeat (first | exact Ext.refl _ | assumption | refine Ext.alloc ?_ _ | refine Ext.drewN ?_ _ | refine Ext.drew ?_)))) ht1
  obtain ⟨s, hs1, hs2, hwr⟩ : ∃ s : Nat, 1 ≤ s ∧ s ≤ 5 ∧ IntKind.i64.wrap (1 + (x : Int)) = (s : Int) := ⟨x + 1, by omega, by omega, by rw [IntWalk.i64_in _ (by omega)]; omega⟩
  go_wp2_with fail
  refine (pick_c g _ 9 _ (hr1.ext (by (repeat (first | exact Ext.refl _ | assumption | refine Ext.alloc ?_ _ | refine Ext.drewN ?_ _ | refine Ext.drew ?_)))) (by omega)).mono ?_
  rintro e w3 ⟨y, rfl, hy, hr2, ht2⟩
  have hz2 := ht2.size
  replace ht2 := ht1.trans (Touched.trans (Touched.of_ext (by (repeat (first | exact Ext.refl _ | assumption | refine Ext.alloc ?_ _ | refine Ext.drewN ?_ _ | refine Ext.drew ?_)))) ht2)
  obtain ⟨d, hd, hyd⟩ : ∃ d : Nat, d ≤ 1 ∧ ((y : Int)).tdiv 8 = (d : Int) := ⟨y / 8, by omega, rfl⟩
  have hwr2 : IntKind.i64.wrap ((s : Int) + (d : Int)) = ((s + d : Nat) : Int) := by rw [IntWalk.i64_in _ (by omega)]; omega
  go_wp2_with fail
  refine (l20Rows_c g _ s 3 _ (hr2.ext (by (repeat (first | exact Ext.refl _ | assumption | refine Ext.alloc ?_ _ | refine Ext.drewN ?_ _ | refine Ext.drew ?_)))) (by omega) (by omega) (by omega)).mono ?_
  rintro e w4 ⟨v1, L1, rfl, o1, -, n1, hr3, ht3⟩
  have hz3 := ht3.size
  replace ht3 := ht2.trans (Touched.trans (Touched.of_ext (by (repeat (first | exact Ext.refl _ | assumption | refine Ext.alloc ?_ _ | refine Ext.drewN ?_ _ | refine Ext.drew ?_)))) ht3)
  go_wp2
  go_ret2
  exact ⟨s + d, v1, L1, rfl, by omega, o1.mono (by omega), by omega, ht3.ext (Ext.trans hx0 (by (repeat (first | exact Ext.refl _ | assumption | refine Ext.alloc ?_ _ | refine Ext.drewN ?_ _ | refine Ext.drew ?_)))) (by omega)⟩
theorem drawRowsPlus_c (a : Option Addr) (cap : Nat) (l : List Int) (w : World) (h : BytesAt w a l) (hlen : l.length ≤ 1048576) (hcap : l.length ≤ cap) :
    Calls Try.prog 49 #[.slice a l.length cap] w (DrewRR w) := by
  go_enter Try.func49, Try.ntmps49
  go_wp2_with fail
  refine (l20Open_c a cap l _ (h.ext (by (repeat (first | exact Ext.refl _ | assumption | refine Ext.alloc ?_ _ | refine Ext.drewN ?_ _ | refine Ext.drew ?_)))) hlen hcap).mono ?_
  rintro e w1 ⟨g, rfl, hg, hr0, hx0⟩
  have hg1 := hr0.lt
  have hz0 := hx0.size
  go_wp2_with fail
  refine (l20Row2_c g 0 _ (hr0.ext (by (repeat (first | exact Ext.refl _ | assumption | refine Ext.alloc ?_ _ | refine Ext.drewN ?_ _ | refine Ext.drew ?_)))) (by omega)).mono ?_
  rintro e w2 ⟨s, v1, v2, L1, L2, rfl, hs, o1, o2, n1, n2, -, ht⟩
  go_wp2
  go_ret3
  exact ⟨s, v1, v2, L1, L2, rfl, hs, o1.mono (by omega), o2.mono (by omega), n1, n2, ht.ext (Ext.trans hx0 (by (repeat (first | exact Ext.refl _ | assumption | refine Ext.alloc ?_ _ | refine Ext.drewN ?_ _ | refine Ext.drew ?_)))) (by omega)⟩
theorem drawRowsThen_c (a : Option Addr) (cap : Nat) (l : List Int) (w : World) (h : BytesAt w a l) (hlen : l.length ≤ 1048576) (hcap : l.length ≤ cap) :
    Calls Try.prog 51 #[.slice a l.length cap] w (DrewRR w) := by
  go_enter Try.func51, Try.ntmps51
  go_wp2_with fail
  refine (l20Open_c a cap l _ (h.ext (by (repeat (first | exact Ext.refl _ | assumption | refine Ext.alloc ?_ _ | refine Ext.drewN ?_ _ | refine Ext.drew ?_)))) hlen hcap).mono ?_
  rintro e w1 ⟨g, rfl, hg, hr0, hx0⟩
  have hg1 := hr0.lt
  have hz0 := hx0.size
  go_wp2_with fail
  refine (l20Row2_c g 0 _ (hr0.ext (by (repeat (first | exact Ext.refl _ | assumption | refine Ext.alloc ?_ _ | refine Ext.drewN ?_ _ | refine Ext.drew ?_)))) (by omega)).mono ?_
  rintro e w2 ⟨s, v1, v2, L1, L2, rfl, hs, o1, o2, n1, n2, -, ht⟩
  go_wp2
  go_ret3
  exact ⟨s, v1, v2, L1, L2, rfl, hs, o1.mono (by omega), o2.mono (by omega), n1, n2, ht.ext (Ext.trans hx0 (by (repeat (first | exact Ext.refl _ | assumption | refine Ext.alloc ?_ _ | refine Ext.drewN ?_ _ | refine Ext.drew ?_)))) (by omega)⟩
theorem drawRowsBack_c (a : Option Addr) (cap : Nat) (l : List Int) (w : World) (h : BytesAt w a l) (hlen : l.length ≤ 1048576) (hcap : l.length ≤ cap) :
    Calls Try.prog 41 #[.slice a l.length cap] w (DrewR w) := by
  go_enter Try.func41, Try.ntmps41
  go_wp2_with fail
  refine (l20Open_c a cap l _ (h.ext (by (repeat (first | exact Ext.refl _ | assumption | refine Ext.alloc ?_ _ | refine Ext.drewN ?_ _ | refine Ext.drew ?_)))) hlen hcap).mono ?_
  rintro e w1 ⟨g, rfl, hg, hr0, hx0⟩
  have hg1 := hr0.lt
  have hz0 := hx0.size
  go_wp2_with fail
  refine (l20Row2_c g 0 _ (hr0.ext (by (repeat (first | exact Ext.refl _ | assumption | refine Ext.alloc ?_ _ | refine Ext.drewN ?_ _ | refine Ext.drew ?_)))) (by omega)).mono ?_
  rintro e w2 ⟨s, v1, v2, L1, L2, rfl, hs, o1, o2, n1, n2, -, ht⟩
  go_wp2
  go_ret2
  exact ⟨s, v1, L1, rfl, by omega, o1.mono (by omega), by omega, ht.ext (Ext.trans hx0 (by (repeat (first | exact Ext.refl _ | assumption | refine Ext.alloc ?_ _ | refine Ext.drewN ?_ _ | refine Ext.drew ?_)))) (by omega)⟩
theorem drawRowsStar_c (a : Option Addr) (cap : Nat) (l : List Int) (w : World) (h : BytesAt w a l) (hlen : l.length ≤ 1048576) (hcap : l.length ≤ cap) :
    Calls Try.prog 58 #[.slice a l.length cap] w (DrewR w) := by
  go_enter Try.func58, Try.ntmps58
  go_wp2_with fail
  refine (l20Open_c a cap l _ (h.ext (by (repeat (first | exact Ext.refl _ | assumption | refine Ext.alloc ?_ _ | refine Ext.drewN ?_ _ | refine Ext.drew ?_)))) hlen hcap).mono ?_
  rintro e w1 ⟨g, rfl, hg, hr0, hx0⟩
  have hg1 := hr0.lt
  have hz0 := hx0.size
  go_wp2_with fail
  refine (l20Row2_c g 0 _ (hr0.ext (by (repeat (first | exact Ext.refl _ | assumption | refine Ext.alloc ?_ _ | refine Ext.drewN ?_ _ | refine Ext.drew ?_)))) (by omega)).mono ?_
  rintro e w2 ⟨s, v1, v2, L1, L2, rfl, hs, o1, o2, n1, n2, -, ht⟩
  go_wp2
  go_ret2
  exact ⟨s, v1, L1, rfl, by omega, o1.mono (by omega), by omega, ht.ext (Ext.trans hx0 (by (repeat (first | exact Ext.refl _ | assumption | refine Ext.alloc ?_ _ | refine Ext.drewN ?_ _ | refine Ext.drew ?_)))) (by omega)⟩
end Go.Proofs.Ytfaeiihgjoognaa
