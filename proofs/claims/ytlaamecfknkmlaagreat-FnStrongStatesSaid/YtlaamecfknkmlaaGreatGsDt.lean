/- Merged texts: contracts and plain lemmas (Dt). -/
import Derived.Test.YtlaamecfknkmlaaGreatGsWx
import Derived.Test.YtlaamecfknkmlaaGreatGs6
namespace Go.Proofs.YtlaamecfknkmlaaGreat
set_option linter.unusedVariables false
open Go.RowKit Go.Kt
/-- Two tests and an expression, drawn from bytes. -/
def DrewTri (w : World) (e : Ending) (w' : World) : Prop :=
  ∃ (p q : Int) (a3 : Option Addr) (c3 : Nat) (L : List Int), e = .returned (.tuple #[.int .i64 p, .slice a3 L.length c3, .int .i64 q]) ∧ IntsAt w' a3 L ∧ L.length ≤ 41 ∧ Ext w w'
set_option maxHeartbeats 2000000 in
theorem drawTripleOk_c (a : Option Addr) (cap : Nat) (l : List Int) (w : World) (h : BytesAt w a l) (hlen : l.length ≤ 1048576) (hcap : l.length ≤ cap) :
    Calls Tryz.prog 22 #[.slice a l.length cap] w (DrewTri w) := by
  go_enter Tryz.func22, Tryz.ntmps22
  go_wp2_with fail
  refine (l20Open_c a cap l _ (h.ext (by (repeat (first | exact Ext.refl _ | assumption | refine Ext.alloc ?_ _ | refine Ext.drewN ?_ _ | refine Ext.drew ?_)))) hlen hcap).mono ?_
  rintro e w1 ⟨g, rfl, hg, hr0, hx0⟩
  have hz0 := hx0.size
  have hgl := hr0.lt
  go_wp2_with fail
  refine (l20Small_c g 0 12 _ (hr0.ext (by (repeat (first | exact Ext.refl _ | assumption | refine Ext.alloc ?_ _ | refine Ext.drewN ?_ _ | refine Ext.drew ?_)))) (by omega)).mono ?_
  rintro e w2 ⟨v2, L, rfl, o2, hl2, hr2, ht2⟩
  obtain ⟨a2, c2, rfl, -⟩ := o2.shape
  have hz2 := ht2.size
  have X2 := Lib.hid (ht2.ext (Ext.trans hx0 (by (repeat (first | exact Ext.refl _ | assumption | refine Ext.alloc ?_ _ | refine Ext.drewN ?_ _ | refine Ext.drew ?_)))) (by omega))
  have O2 := Lib.hid o2
  have R2 := Lib.hid hr2
  have hgw : w.heap.size ≤ g := by omega
  clear h hr0 hx0 o2 hr2 ht2 hz0
  go_wp2_with fail
  refine (l20Test_c g _ 12 _ (R2.out.ext (by (repeat (first | exact Ext.refl _ | assumption | refine Ext.alloc ?_ _ | refine Ext.drewN ?_ _ | refine Ext.drew ?_)))) (by omega)).mono ?_
  rintro e w3 ⟨q, rfl, hr3, ht3⟩
  have O3 := Lib.hid (OwnI.drawn (OwnI.ext O2.out (by (repeat (first | exact Ext.refl _ | assumption | refine Ext.alloc ?_ _ | refine Ext.drewN ?_ _ | refine Ext.drew ?_)))) ht3 hgl)
  have R3 := Lib.hid hr3
  have X3 := Lib.hid (ht3.ext (X2.out.trans (by (repeat (first | exact Ext.refl _ | assumption | refine Ext.alloc ?_ _ | refine Ext.drewN ?_ _ | refine Ext.drew ?_)))) hgw)
  have hz3 := ht3.size
  clear hr3 ht3 O2 R2 X2
  have CW : Hid (∀ w', Ext w3 w' → Calls Tryz.prog 89 #[.slice a2 L.length c2, .int .i64 q] w' (RetWs w')) := fun w' x => sWeakTest_c a2 c2 L q w' ((OwnI.ext O3.out x).ints) (by omega)
  generalize hn : L.length = nL at *
  have HN := Lib.hid hn
  clear hn
  go_wp2_with fail
  refine (CW.out _ (by (repeat (first | exact Ext.refl _ | assumption | refine Ext.alloc ?_ _ | refine Ext.drewN ?_ _ | refine Ext.drew ?_)))).mono ?_
  rintro e w4 ⟨n, rfl, x4, hn⟩
  have T4 := Lib.hid (Ext.trans (show Ext w3 _ by (repeat (first | exact Ext.refl _ | assumption | refine Ext.alloc ?_ _ | refine Ext.drewN ?_ _ | refine Ext.drew ?_))) x4)
  have O4 := Lib.hid (OwnI.ext O3.out T4.out)
  have R4 := Lib.hid (R3.out.ext T4.out)
  have X4 := Lib.hid (X3.out.trans T4.out)
  have hz4 := x4.size
  clear x4 O3 R3 X3 T4 CW
  rcases hn with rfl | ⟨W, rfl, hW⟩
  · go_wp2_with fail
    refine (l20Test_c g _ 12 _ (R4.out.ext (by (repeat (first | exact Ext.refl _ | assumption | refine Ext.alloc ?_ _ | refine Ext.drewN ?_ _ | refine Ext.drew ?_)))) (by omega)).mono ?_
    rintro e w5 ⟨p, rfl, hr5, ht5⟩
    have O5 := Lib.hid (OwnI.drawn (OwnI.ext O4.out (by (repeat (first | exact Ext.refl _ | assumption | refine Ext.alloc ?_ _ | refine Ext.drewN ?_ _ | refine Ext.drew ?_)))) ht5 hgl)
    have X5 := Lib.hid (ht5.ext (X4.out.trans (by (repeat (first | exact Ext.refl _ | assumption | refine Ext.alloc ?_ _ | refine Ext.drewN ?_ _ | refine Ext.drew ?_)))) hgw)
    clear hr5 ht5
    go_wp2
    go_ret3
    exact ⟨p, q, a2, c2, L, by rw [HN.out]; rfl, ((OwnI.ext O5.out (by (repeat (first | exact Ext.refl _ | assumption | refine Ext.alloc ?_ _ | refine Ext.drewN ?_ _ | refine Ext.drew ?_)))).ints), by rw [HN.out]; exact hl2, X5.out.trans (by (repeat (first | exact Ext.refl _ | assumption | refine Ext.alloc ?_ _ | refine Ext.drewN ?_ _ | refine Ext.drew ?_)))⟩
  · have hW0 : (0 : Int) ≤ (W : Int) := by omega
    go_wp2_with fail
    refine (pick_c g _ 2 _ (R4.out.ext (by (repeat (first | exact Ext.refl _ | assumption | refine Ext.alloc ?_ _ | refine Ext.drewN ?_ _ | refine Ext.drew ?_)))) (by omega)).mono ?_
    rintro e w5 ⟨x, rfl, hx, hr5, ht5⟩
    have O5 := Lib.hid (OwnI.drawn (OwnI.ext O4.out (by (repeat (first | exact Ext.refl _ | assumption | refine Ext.alloc ?_ _ | refine Ext.drewN ?_ _ | refine Ext.drew ?_)))) ht5 hgl)
    have X5 := Lib.hid (ht5.ext (X4.out.trans (by (repeat (first | exact Ext.refl _ | assumption | refine Ext.alloc ?_ _ | refine Ext.drewN ?_ _ | refine Ext.drew ?_)))) hgw)
    have R5 := Lib.hid hr5
    have hz5 := ht5.size
    clear hr5 ht5 O4 R4 X4
    by_cases hx0 : x = 0
    · subst hx0
      go_wp2_with fail
      refine (pick_c g _ 16 _ (R5.out.ext (by (repeat (first | exact Ext.refl _ | assumption | refine Ext.alloc ?_ _ | refine Ext.drewN ?_ _ | refine Ext.drew ?_)))) (by omega)).mono ?_
      rintro e w6 ⟨y, rfl, hy, hr6, ht6⟩
      have O6 := Lib.hid (OwnI.drawn (OwnI.ext O5.out (by (repeat (first | exact Ext.refl _ | assumption | refine Ext.alloc ?_ _ | refine Ext.drewN ?_ _ | refine Ext.drew ?_)))) ht6 hgl)
      have X6 := Lib.hid (ht6.ext (X5.out.trans (by (repeat (first | exact Ext.refl _ | assumption | refine Ext.alloc ?_ _ | refine Ext.drewN ?_ _ | refine Ext.drew ?_)))) hgw)
      have hy16 : y < 16 := by omega
      have CB : Hid (∀ w', Calls Tryz.prog 90 #[.int .i64 (W : Nat), .int .i64 (y : Nat)] w' fun e w'' => e = .returned (.int .i64 (andN W y : Nat)) ∧ w' = w'') := fun w' => l1Both_c W y w' (by omega) (by omega)
      clear hr6 ht6 hy
      generalize andN W y = wy at *
      go_wp2_with (go_at_call 90; refine (CB.out _).mono ?_; rintro e w' ⟨rfl, rfl⟩)
      go_ret3
      exact ⟨(wy : Int), q, a2, c2, L, by rw [HN.out]; rfl, ((OwnI.ext O6.out (by (repeat (first | exact Ext.refl _ | assumption | refine Ext.alloc ?_ _ | refine Ext.drewN ?_ _ | refine Ext.drew ?_)))).ints), by rw [HN.out]; exact hl2, X6.out.trans (by (repeat (first | exact Ext.refl _ | assumption | refine Ext.alloc ?_ _ | refine Ext.drewN ?_ _ | refine Ext.drew ?_)))⟩
    · have hx0' : (((x : Nat) : Int) == 0) = false := by simp; omega
      clear hx0 hx
      go_wp2_with fail
      refine (l20Test_c g _ 12 _ (R5.out.ext (by (repeat (first | exact Ext.refl _ | assumption | refine Ext.alloc ?_ _ | refine Ext.drewN ?_ _ | refine Ext.drew ?_)))) (by omega)).mono ?_
      rintro e w6 ⟨p, rfl, hr6, ht6⟩
      have O6 := Lib.hid (OwnI.drawn (OwnI.ext O5.out (by (repeat (first | exact Ext.refl _ | assumption | refine Ext.alloc ?_ _ | refine Ext.drewN ?_ _ | refine Ext.drew ?_)))) ht6 hgl)
      have X6 := Lib.hid (ht6.ext (X5.out.trans (by (repeat (first | exact Ext.refl _ | assumption | refine Ext.alloc ?_ _ | refine Ext.drewN ?_ _ | refine Ext.drew ?_)))) hgw)
      clear hr6 ht6
      go_wp2
      go_ret3
      exact ⟨p, q, a2, c2, L, by rw [HN.out]; rfl, ((OwnI.ext O6.out (by (repeat (first | exact Ext.refl _ | assumption | refine Ext.alloc ?_ _ | refine Ext.drewN ?_ _ | refine Ext.drew ?_)))).ints), by rw [HN.out]; exact hl2, X6.out.trans (by (repeat (first | exact Ext.refl _ | assumption | refine Ext.alloc ?_ _ | refine Ext.drewN ?_ _ | refine Ext.drew ?_)))⟩
end Go.Proofs.YtlaamecfknkmlaaGreat
