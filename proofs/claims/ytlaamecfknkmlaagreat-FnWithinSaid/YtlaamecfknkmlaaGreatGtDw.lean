/- Merged texts: contracts and plain lemmas (Dw). -/
import Derived.Test.YtlaamecfknkmlaaGreatGtPk
import Derived.Test.YtlaamecfknkmlaaGreatGtEq
import Derived.Test.YtlaamecfknkmlaaGreatGtZg
namespace Go.Kt
set_option linter.unusedVariables false
theorem wiF_jn {e f : List Int} (h : wiF e f = 1) : jnB [e, f] 20 = true ∧ eqF (jnL [e, f] 20) f = 1 := by
  unfold wiF at h
  split at h
  · rename_i hb; exact ⟨hb, h⟩
  · cases h
theorem wiF_tb {e f : List Int} (h : wiF e f = 1) {tr : List Int} (ht : tbB e tr = true) : tbB f tr = true := by
  obtain ⟨hb, h1⟩ := wiF_jn h
  have hv : tvB tr = true := by
    unfold tbB at ht
    simp only [Bool.and_eq_true] at ht
    exact ht.2.1
  have ho := (eqF_one h1).tb tr
  obtain ⟨ke, kf, hs, hk⟩ := jn_two hb
  obtain ⟨s, gs, rfl⟩ := kvB_tree ke
  obtain ⟨t, gt, rfl⟩ := kvB_tree kf
  have hw : jnL [s.words, t.words] 20 = (Kt.two 20 s t).words := by rw [hs]; simp [Kt.words]
  rw [hw] at ho
  have hk2 : kvB (Kt.two 20 s t).words = true := by
    obtain ⟨k2, -⟩ := auB_kv (eqF_one h1).a
    rw [hw] at k2; exact k2
  rw [tb_plus gs gt hk2 hv, ht] at ho
  exact ho.symm
theorem wiF_both {e f : List Int} (h : wiF e f = 1) (h' : wiF f e = 1) : eqF e f ≠ 0 := by
  refine eqF_zero fun t _ _ _ => ?_
  rw [Bool.eq_iff_iff]
  exact ⟨wiF_tb h, wiF_tb h'⟩
theorem wiF_range (e f : List Int) : wiF e f = 1 ∨ wiF e f = 0 ∨ wiF e f = -1 := by
  unfold wiF
  split
  · exact eqF_range _ _
  · exact .inr (.inr rfl)
end Go.Kt
namespace Go.Proofs.YtlaamecfknkmlaaGreat
set_option linter.unusedVariables false
open Go.RowKit Go.Kt Go.Sort
set_option maxHeartbeats 2000000 in
theorem drawWithin_c (a : Option Addr) (cap : Nat) (l : List Int) (w : World) (h : BytesAt w a l) (hlen : l.length ≤ 1048576) (hcap : l.length ≤ cap) :
    Calls Tryz.prog 26 #[.slice a l.length cap] w (DrewPr w) := by
  go_enter Tryz.func26, Tryz.ntmps26
  go_wp2_with fail
  refine (l20Open_c a cap l _ (h.ext (by (repeat (first | exact Ext.refl _ | assumption | refine Ext.alloc ?_ _ | refine Ext.drewN ?_ _ | refine Ext.drew ?_)))) hlen hcap).mono ?_
  rintro e w1 ⟨g, rfl, hg, hr0, hx0⟩
  have hz0 := hx0.size
  go_wp2_with fail
  refine (l20Laws_c g 0 _ (hr0.ext (by (repeat (first | exact Ext.refl _ | assumption | refine Ext.alloc ?_ _ | refine Ext.drewN ?_ _ | refine Ext.drew ?_)))) (by omega)).mono ?_
  rintro e w2 ⟨a1, a2, n1, c1, n2, c2, rfl, k1, k2, h1, h2, hr2, ht2⟩
  have hz2 := ht2.size
  have X2 := Lib.hid (ht2.ext (Ext.trans hx0 (by (repeat (first | exact Ext.refl _ | assumption | refine Ext.alloc ?_ _ | refine Ext.drewN ?_ _ | refine Ext.drew ?_)))) (by omega))
  have hgz := hr2.lt
  have HR2 := Lib.hid hr2
  have K1 := Lib.hid k1
  have K2 := Lib.hid k2
  have hgw : w.heap.size ≤ g := by omega
  obtain ⟨-, L1, hL1, i1⟩ := k1
  obtain ⟨-, L2, hL2, i2⟩ := k2
  have CP : Hid (∀ w', Ext w2 w' → Calls Tryz.prog 95 #[.slice a1 n1 c1, .slice a2 n2 c2] w' (RetIB w' (jnL [L1, L2] 20) (jnB [L1, L2] 20))) := fun w' x => by
    rw [← hL1, ← hL2, ← jn_plus, ← jn_keep]
    exact sKatPlus_c a1 a2 c1 c2 L1 L2 w' (i1.ext x).1 (i2.ext x).1 (by omega) (by omega)
  have hjl := jnL_len [L1, L2] 20
  clear h hr0 hx0 hr2 ht2 i1 i2 hL1 hL2 hz0 hz2
  generalize jnB [L1, L2] 20 = bo at *
  generalize jnL [L1, L2] 20 = L3 at *
  go_wp2_with fail
  refine (CP.out _ (by (repeat (first | exact Ext.refl _ | assumption | refine Ext.alloc ?_ _ | refine Ext.drewN ?_ _ | refine Ext.drew ?_)))).mono ?_
  rintro e w3 ⟨v3, rfl, o3, x3⟩
  obtain ⟨a3, c3, rfl, -⟩ := o3.shape
  have X23 := Lib.hid (Ext.trans (show Ext w2 _ by (repeat (first | exact Ext.refl _ | assumption | refine Ext.alloc ?_ _ | refine Ext.drewN ?_ _ | refine Ext.drew ?_))) x3)
  have HR3 := Lib.hid (HR2.out.ext X23.out)
  have E3 := Lib.hid (K1.out.ext X23.out)
  have F3 := Lib.hid (K2.out.ext X23.out)
  have J3 : Hid (HasN w3 a3 L3.length c3) := ⟨ownI_fit o3, L3, rfl, o3.intsE⟩
  have hz3 := X23.out.size
  clear o3 x3 CP HR2 K1 K2
  generalize L3.length = n3 at *
  cases bo
  · go_wp2
    go_ret2
    exact ⟨a1, a2, n1, c1, n2, c2, rfl, E3.out.ext (by (repeat (first | exact Ext.refl _ | assumption | refine Ext.alloc ?_ _ | refine Ext.drewN ?_ _ | refine Ext.drew ?_))), F3.out.ext (by (repeat (first | exact Ext.refl _ | assumption | refine Ext.alloc ?_ _ | refine Ext.drewN ?_ _ | refine Ext.drew ?_))), h1, h2, X2.out.trans (X23.out.trans (by (repeat (first | exact Ext.refl _ | assumption | refine Ext.alloc ?_ _ | refine Ext.drewN ?_ _ | refine Ext.drew ?_))))⟩
  · go_wp2_with fail
    refine (pickS_c g 1300 2 _ (HR3.out.ext (by (repeat (first | exact Ext.refl _ | assumption | refine Ext.alloc ?_ _ | refine Ext.drewN ?_ _ | refine Ext.drew ?_)))) (by omega)).mono ?_
    rintro e w4 ⟨x, q, rfl, hx, xs, hr4, ht4⟩
    have hcell := Lib.hid (show ∃ v, w3.cell? ⟨g, 1, none⟩ = some v from let ⟨p, _, hp⟩ := HR3.out.pos; ⟨_, hp⟩)
    have E4 := Lib.hid ((E3.out.set hcell.out q).ext xs)
    have F4 := Lib.hid ((F3.out.set hcell.out q).ext xs)
    have J4 := Lib.hid ((J3.out.set hcell.out q).ext xs)
    have X4 := Lib.hid (ht4.ext (X2.out.trans X23.out) hgw)
    have hz4 := ht4.size
    clear hr4 xs ht4 E3 F3 J3 HR3 hcell
    by_cases hx0 : x = 0
    · subst hx0
      go_wp2
      go_ret2
      exact ⟨a1, a3, n1, c1, n3, c3, rfl, E4.out.ext (by (repeat (first | exact Ext.refl _ | assumption | refine Ext.alloc ?_ _ | refine Ext.drewN ?_ _ | refine Ext.drew ?_))), J4.out.ext (by (repeat (first | exact Ext.refl _ | assumption | refine Ext.alloc ?_ _ | refine Ext.drewN ?_ _ | refine Ext.drew ?_))), h1, by omega, X4.out.trans (by (repeat (first | exact Ext.refl _ | assumption | refine Ext.alloc ?_ _ | refine Ext.drewN ?_ _ | refine Ext.drew ?_)))⟩
    · have hx0' : (((x : Nat) : Int) == 0) = false := by simp; omega
      clear hx0 hx
      go_wp2
      go_ret2
      exact ⟨a1, a2, n1, c1, n2, c2, rfl, E4.out.ext (by (repeat (first | exact Ext.refl _ | assumption | refine Ext.alloc ?_ _ | refine Ext.drewN ?_ _ | refine Ext.drew ?_))), F4.out.ext (by (repeat (first | exact Ext.refl _ | assumption | refine Ext.alloc ?_ _ | refine Ext.drewN ?_ _ | refine Ext.drew ?_))), h1, h2, X4.out.trans (by (repeat (first | exact Ext.refl _ | assumption | refine Ext.alloc ?_ _ | refine Ext.drewN ?_ _ | refine Ext.drew ?_)))⟩
end Go.Proofs.YtlaamecfknkmlaaGreat
