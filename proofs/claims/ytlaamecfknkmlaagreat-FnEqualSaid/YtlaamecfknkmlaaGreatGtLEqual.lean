/- Merged texts: contracts and plain lemmas (LEqual). -/
import Derived.Test.YtlaamecfknkmlaaGreatGtEq
import Derived.Test.YtlaamecfknkmlaaGreatGt6
import Derived.Test.YtlaamecfknkmlaaGreatGt3
import Derived.Test.YtlaamecfknkmlaaGreatGtZg
namespace Go.Kt
theorem kv_jn {ls : List (List Int)} {s : Int} (h : kvB (jnL ls s) = true) : jnB ls s = true := by
  cases hb : jnB ls s
  · rw [jn_no hb, kvB_nil] at h; cases h
  · rfl
theorem eq_law1 {E : List Int} (h1 : jnB [E] 21 = true) (h2 : jnB [[15], jnL [E, jnL [E] 21] 19] 20 = true) : eqF (jnL [E] 21) (jnL [[15], jnL [E, jnL [E] 21] 19] 20) ≠ 0 := by
  obtain ⟨k1, s1, -⟩ := jn_one h1
  obtain ⟨-, k2, s2, -⟩ := jn_two h2
  obtain ⟨-, -, s3, -⟩ := jn_two (kv_jn k2)
  rw [s2, s3, s1]
  obtain ⟨t, ht, rfl⟩ := kvB_tree k1
  have := eqF_star ht
  simpa [Kt.words] using this
theorem eq_law2 {E F : List Int} (h1 : jnB [jnL [E, F] 20] 21 = true) (h2 : jnB [jnL [E] 21, jnL [jnL [F, jnL [E] 21] 19] 21] 19 = true) : eqF (jnL [jnL [E, F] 20] 21) (jnL [jnL [E] 21, jnL [jnL [F, jnL [E] 21] 19] 21] 19) ≠ 0 := by
  obtain ⟨k1, s1, -⟩ := jn_one h1
  obtain ⟨kE, kF, s2, -⟩ := jn_two (kv_jn k1)
  obtain ⟨k3, k4, s3, -⟩ := jn_two h2
  obtain ⟨-, s4, -⟩ := jn_one (kv_jn k3)
  obtain ⟨k5, s5, -⟩ := jn_one (kv_jn k4)
  obtain ⟨-, -, s6, -⟩ := jn_two (kv_jn k5)
  rw [s1, s2, s3, s5, s6, s4]
  obtain ⟨s, hs, rfl⟩ := kvB_tree kE
  obtain ⟨t, ht, rfl⟩ := kvB_tree kF
  have := eqF_sum hs ht
  simpa [Kt.words] using this
end Go.Kt
namespace Go.Proofs.YtlaamecfknkmlaaGreat
set_option linter.unusedVariables false
open Go.RowKit Go.Kt Go.Sort
set_option maxRecDepth 100000 in
set_option maxHeartbeats 8000000 in
theorem fnEqual_c (a0 : Option Addr) (c0 : Nat) (l0 : List Int) (w : World) (h0 : BytesAt w a0 l0) (hlen0 : l0.length ≤ 9223372036854775807) (hcap0 : l0.length ≤ c0) :
    Calls Tryz.prog 8 #[.slice a0 l0.length c0] w fun e w' => e = .returned (.bool true) ∧ Ext w w' := by
  by_cases hb0 : l0.length ≤ 1048576
  · go_enter Tryz.func8, Tryz.ntmps8
    go_wp2_with fail
    refine (drawEqual_c a0 c0 l0 _ h0 hb0 hcap0).mono ?_
    rintro e w1 ⟨ae, af, ne, ce, nf, cf, rfl, ⟨hfe, E, rfl, ie⟩, ⟨hff, F, rfl, if_⟩, hne, hnf, x1⟩
    have IE := Lib.hid ie.1
    have IF := Lib.hid if_.1
    have X := Lib.hid x1
    clear ie if_ x1 h0
    have HP1 : Hid (jnB [E] 21 = true → jnB [[15], jnL [E, jnL [E] 21] 19] 20 = true → eqF (jnL [E] 21) (jnL [[15], jnL [E, jnL [E] 21] 19] 20) ≠ 0) := fun h h' => eq_law1 h h'
    have HP2 : Hid (jnB [jnL [E, F] 20] 21 = true → jnB [jnL [E] 21, jnL [jnL [F, jnL [E] 21] 19] 21] 19 = true → eqF (jnL [jnL [E, F] 20] 21) (jnL [jnL [E] 21, jnL [jnL [F, jnL [E] 21] 19] 21] 19) ≠ 0) := fun h h' => eq_law2 h h'
    have hln0 := jnL_len [E] 21
    have hln1 := jnL_len [E, jnL [E] 21] 19
    have hln2 := jnL_len [[15], jnL [E, jnL [E] 21] 19] 20
    have hln3 := jnL_len [E, F] 20
    have hln4 := jnL_len [jnL [E, F] 20] 21
    have hln5 := jnL_len [F, jnL [E] 21] 19
    have hln6 := jnL_len [jnL [F, jnL [E] 21] 19] 21
    have hln7 := jnL_len [jnL [E] 21, jnL [jnL [F, jnL [E] 21] 19] 21] 19
    have J0 : Hid (∀ a c w', IntsAt w' a E → Calls Tryz.prog 42 #[.slice a E.length c] w' (RetIB w' (jnL [E] 21) (jnB [E] 21))) := fun a c w' h => iKatStarA_c a c E w' h (by omega)
    have J1 : Hid (∀ a c b d w', IntsAt w' a E → IntsAt w' b (jnL [E] 21) → Calls Tryz.prog 43 #[.slice a E.length c, .slice b (jnL [E] 21).length d] w' (RetIB w' (jnL [E, jnL [E] 21] 19) (jnB [E, jnL [E] 21] 19))) := fun a c b d w' h h' => iKatThenA_c a b c d _ _ w' h h' (by omega) (by omega)
    have J2 : Hid (∀ a c b d w', IntsAt w' a [15] → IntsAt w' b (jnL [E, jnL [E] 21] 19) → Calls Tryz.prog 44 #[.slice a 1 c, .slice b (jnL [E, jnL [E] 21] 19).length d] w' (RetIB w' (jnL [[15], jnL [E, jnL [E] 21] 19] 20) (jnB [[15], jnL [E, jnL [E] 21] 19] 20))) := fun a c b d w' h h' => iKatPlusA_c a b c d [15] _ w' h h' (by simp) (by omega)
    have J3 : Hid (∀ a c b d w', IntsAt w' a E → IntsAt w' b F → Calls Tryz.prog 44 #[.slice a E.length c, .slice b F.length d] w' (RetIB w' (jnL [E, F] 20) (jnB [E, F] 20))) := fun a c b d w' h h' => iKatPlusA_c a b c d _ _ w' h h' (by omega) (by omega)
    have J4 : Hid (∀ a c w', IntsAt w' a (jnL [E, F] 20) → Calls Tryz.prog 42 #[.slice a (jnL [E, F] 20).length c] w' (RetIB w' (jnL [jnL [E, F] 20] 21) (jnB [jnL [E, F] 20] 21))) := fun a c w' h => iKatStarA_c a c _ w' h (by omega)
    have J5 : Hid (∀ a c b d w', IntsAt w' a F → IntsAt w' b (jnL [E] 21) → Calls Tryz.prog 43 #[.slice a F.length c, .slice b (jnL [E] 21).length d] w' (RetIB w' (jnL [F, jnL [E] 21] 19) (jnB [F, jnL [E] 21] 19))) := fun a c b d w' h h' => iKatThenA_c a b c d _ _ w' h h' (by omega) (by omega)
    have J6 : Hid (∀ a c w', IntsAt w' a (jnL [F, jnL [E] 21] 19) → Calls Tryz.prog 42 #[.slice a (jnL [F, jnL [E] 21] 19).length c] w' (RetIB w' (jnL [jnL [F, jnL [E] 21] 19] 21) (jnB [jnL [F, jnL [E] 21] 19] 21))) := fun a c w' h => iKatStarA_c a c _ w' h (by omega)
    have J7 : Hid (∀ a c b d w', IntsAt w' a (jnL [E] 21) → IntsAt w' b (jnL [jnL [F, jnL [E] 21] 19] 21) → Calls Tryz.prog 43 #[.slice a (jnL [E] 21).length c, .slice b (jnL [jnL [F, jnL [E] 21] 19] 21).length d] w' (RetIB w' (jnL [jnL [E] 21, jnL [jnL [F, jnL [E] 21] 19] 21] 19) (jnB [jnL [E] 21, jnL [jnL [F, jnL [E] 21] 19] 21] 19))) := fun a c b d w' h h' => iKatThenA_c a b c d _ _ w' h h' (by omega) (by omega)
    generalize jnB [jnL [E] 21, jnL [jnL [F, jnL [E] 21] 19] 21] 19 = bq at *
    generalize jnL [jnL [E] 21, jnL [jnL [F, jnL [E] 21] 19] 21] 19 = Lr at *
    generalize jnB [jnL [F, jnL [E] 21] 19] 21 = b6 at *
    generalize jnL [jnL [F, jnL [E] 21] 19] 21 = Lts at *
    generalize jnB [F, jnL [E] 21] 19 = b5 at *
    generalize jnL [F, jnL [E] 21] 19 = Lt at *
    generalize jnB [jnL [E, F] 20] 21 = bp at *
    generalize jnL [jnL [E, F] 20] 21 = Ll at *
    generalize jnB [E, F] 20 = b3 at *
    generalize jnL [E, F] 20 = Ls at *
    generalize jnB [[15], jnL [E, jnL [E] 21] 19] 20 = bc at *
    generalize jnL [[15], jnL [E, jnL [E] 21] 19] 20 = Lm at *
    generalize jnB [E, jnL [E] 21] 19 = b1 at *
    generalize jnL [E, jnL [E] 21] 19 = Lo at *
    generalize jnB [E] 21 = bo at *
    generalize jnL [E] 21 = S at *
    have hE0 : eqF E E ≠ 0 := eqF_self E
    have hE1 : (eqF E E == 0) = false := by simpa using hE0
    have hR1 : ¬ eqF E F < -1 := by have := eqF_range E F; omega
    have hR2 : ¬ 1 < eqF E F := by have := eqF_range E F; omega
    have QS : Hid (∀ w' a b c d, IntsAt w' a E → IntsAt w' b F → Calls Tryz.prog 41 #[.slice a E.length c, .slice b F.length d] w' fun r w'' => r = .returned (.int .i64 (eqF E F)) ∧ Ext w' w'') := fun w' a b c d h h' => sEqual_c a b c d E F w' h h' (by omega) (by omega)
    have Q0 : Hid (∀ w' a b c d, IntsAt w' a E → IntsAt w' b F → Calls Tryz.prog 29 #[.slice a E.length c, .slice b F.length d] w' fun r w'' => r = .returned (.int .i64 (eqF E F)) ∧ Ext w' w'') := fun w' a b c d h h' => iEqual_c a b c d E F w' h h' (by omega) (by omega)
    have Q1 : Hid (∀ w' a b c d, IntsAt w' a F → IntsAt w' b E → Calls Tryz.prog 29 #[.slice a F.length c, .slice b E.length d] w' fun r w'' => r = .returned (.int .i64 (eqF E F)) ∧ Ext w' w'') := fun w' a b c d h h' => by rw [← eqF_swp]; exact iEqual_c a b c d F E w' h h' (by omega) (by omega)
    have Q2 : Hid (∀ w' a b c d, IntsAt w' a E → IntsAt w' b E → Calls Tryz.prog 29 #[.slice a E.length c, .slice b E.length d] w' fun r w'' => r = .returned (.int .i64 (eqF E E)) ∧ Ext w' w'') := fun w' a b c d h h' => iEqual_c a b c d E E w' h h' (by omega) (by omega)
    have Q3 : Hid (∀ w' a b c d, IntsAt w' a S → IntsAt w' b Lm → Calls Tryz.prog 29 #[.slice a S.length c, .slice b Lm.length d] w' fun r w'' => r = .returned (.int .i64 (eqF S Lm)) ∧ Ext w' w'') := fun w' a b c d h h' => iEqual_c a b c d S Lm w' h h' (by omega) (by omega)
    have Q4 : Hid (∀ w' a b c d, IntsAt w' a Ll → IntsAt w' b Lr → Calls Tryz.prog 29 #[.slice a Ll.length c, .slice b Lr.length d] w' fun r w'' => r = .returned (.int .i64 (eqF Ll Lr)) ∧ Ext w' w'') := fun w' a b c d h h' => iEqual_c a b c d Ll Lr w' h h' (by omega) (by omega)
    clear hln0 hln1 hln2 hln3 hln4 hln5 hln6 hln7
    generalize eqF E F = n0 at *
    generalize eqF E E = n1 at *
    generalize eqF S Lm = n2 at *
    generalize eqF Ll Lr = n3 at *
    go_wp2_with fail
    refine (Q0.out _ ae af _ _ (IE.out.ext (by (repeat (first | exact Ext.refl _ | assumption | refine Ext.alloc ?_ _ | refine Ext.drewN ?_ _ | refine Ext.drew ?_)))) (IF.out.ext (by (repeat (first | exact Ext.refl _ | assumption | refine Ext.alloc ?_ _ | refine Ext.drewN ?_ _ | refine Ext.drew ?_))))).mono ?_
    rintro e w2 ⟨rfl, y⟩
    have T := Lib.hid (Ext.trans (show Ext w1 _ by (repeat (first | exact Ext.refl _ | assumption | refine Ext.alloc ?_ _ | refine Ext.drewN ?_ _ | refine Ext.drew ?_))) y)
    clear y
    replace IE := Lib.hid (IE.out.ext T.out)
    replace IF := Lib.hid (IF.out.ext T.out)
    replace X := Lib.hid (X.out.trans T.out)
    clear T
    go_wp2_with fail
    refine (QS.out _ ae af _ _ (IE.out.ext (by (repeat (first | exact Ext.refl _ | assumption | refine Ext.alloc ?_ _ | refine Ext.drewN ?_ _ | refine Ext.drew ?_)))) (IF.out.ext (by (repeat (first | exact Ext.refl _ | assumption | refine Ext.alloc ?_ _ | refine Ext.drewN ?_ _ | refine Ext.drew ?_))))).mono ?_
    rintro e w3 ⟨rfl, y⟩
    have T := Lib.hid (Ext.trans (show Ext w2 _ by (repeat (first | exact Ext.refl _ | assumption | refine Ext.alloc ?_ _ | refine Ext.drewN ?_ _ | refine Ext.drew ?_))) y)
    clear y
    replace IE := Lib.hid (IE.out.ext T.out)
    replace IF := Lib.hid (IF.out.ext T.out)
    replace X := Lib.hid (X.out.trans T.out)
    clear T
    go_wp2_with fail
    refine (Q1.out _ af ae _ _ (IF.out.ext (by (repeat (first | exact Ext.refl _ | assumption | refine Ext.alloc ?_ _ | refine Ext.drewN ?_ _ | refine Ext.drew ?_)))) (IE.out.ext (by (repeat (first | exact Ext.refl _ | assumption | refine Ext.alloc ?_ _ | refine Ext.drewN ?_ _ | refine Ext.drew ?_))))).mono ?_
    rintro e w4 ⟨rfl, y⟩
    have T := Lib.hid (Ext.trans (show Ext w3 _ by (repeat (first | exact Ext.refl _ | assumption | refine Ext.alloc ?_ _ | refine Ext.drewN ?_ _ | refine Ext.drew ?_))) y)
    clear y
    replace IE := Lib.hid (IE.out.ext T.out)
    replace IF := Lib.hid (IF.out.ext T.out)
    replace X := Lib.hid (X.out.trans T.out)
    clear T
    go_wp2_with fail
    refine (Q2.out _ ae ae _ _ (IE.out.ext (by (repeat (first | exact Ext.refl _ | assumption | refine Ext.alloc ?_ _ | refine Ext.drewN ?_ _ | refine Ext.drew ?_)))) (IE.out.ext (by (repeat (first | exact Ext.refl _ | assumption | refine Ext.alloc ?_ _ | refine Ext.drewN ?_ _ | refine Ext.drew ?_))))).mono ?_
    rintro e w5 ⟨rfl, y⟩
    have T := Lib.hid (Ext.trans (show Ext w4 _ by (repeat (first | exact Ext.refl _ | assumption | refine Ext.alloc ?_ _ | refine Ext.drewN ?_ _ | refine Ext.drew ?_))) y)
    clear y
    replace IE := Lib.hid (IE.out.ext T.out)
    replace IF := Lib.hid (IF.out.ext T.out)
    replace X := Lib.hid (X.out.trans T.out)
    clear T
    go_wp2_with fail
    refine (J0.out ae ce _ (IE.out.ext (by (repeat (first | exact Ext.refl _ | assumption | refine Ext.alloc ?_ _ | refine Ext.drewN ?_ _ | refine Ext.drew ?_))))).mono ?_
    rintro e w6 ⟨v, rfl, o, y⟩
    obtain ⟨as_, cs_, rfl, i⟩ := o.shape
    have Is := Lib.hid i
    clear o i
    have T := Lib.hid (Ext.trans (show Ext w5 _ by (repeat (first | exact Ext.refl _ | assumption | refine Ext.alloc ?_ _ | refine Ext.drewN ?_ _ | refine Ext.drew ?_))) y)
    clear y
    replace IE := Lib.hid (IE.out.ext T.out)
    replace IF := Lib.hid (IF.out.ext T.out)
    replace X := Lib.hid (X.out.trans T.out)
    clear T
    go_wp2_with fail
    refine (J1.out ae ce as_ cs_ _ (IE.out.ext (by (repeat (first | exact Ext.refl _ | assumption | refine Ext.alloc ?_ _ | refine Ext.drewN ?_ _ | refine Ext.drew ?_)))) (Is.out.ext (by (repeat (first | exact Ext.refl _ | assumption | refine Ext.alloc ?_ _ | refine Ext.drewN ?_ _ | refine Ext.drew ?_))))).mono ?_
    rintro e w7 ⟨v, rfl, o, y⟩
    obtain ⟨ao_, co_, rfl, i⟩ := o.shape
    have Io := Lib.hid i
    clear o i
    have T := Lib.hid (Ext.trans (show Ext w6 _ by (repeat (first | exact Ext.refl _ | assumption | refine Ext.alloc ?_ _ | refine Ext.drewN ?_ _ | refine Ext.drew ?_))) y)
    clear y
    replace IE := Lib.hid (IE.out.ext T.out)
    replace IF := Lib.hid (IF.out.ext T.out)
    replace Is := Lib.hid (Is.out.ext T.out)
    replace X := Lib.hid (X.out.trans T.out)
    clear T
    go_wp2_with fail
    refine (J2.out _ _ ao_ co_ _ (by first | exact (OwnI.lit1 _ _ _ _ (Nat.le_refl _)).ints | exact ((OwnI.lit1 _ _ _ _ (Nat.le_refl _)).ints).ext (by (repeat (first | exact Ext.refl _ | assumption | refine Ext.alloc ?_ _ | refine Ext.drewN ?_ _ | refine Ext.drew ?_)))) (Io.out.ext (by (repeat (first | exact Ext.refl _ | assumption | refine Ext.alloc ?_ _ | refine Ext.drewN ?_ _ | refine Ext.drew ?_))))).mono ?_
    rintro e w8 ⟨v, rfl, o, y⟩
    obtain ⟨am_, cm_, rfl, i⟩ := o.shape
    have Im := Lib.hid i
    clear o i
    have T := Lib.hid (Ext.trans (show Ext w7 _ by (repeat (first | exact Ext.refl _ | assumption | refine Ext.alloc ?_ _ | refine Ext.drewN ?_ _ | refine Ext.drew ?_))) y)
    clear y
    replace IE := Lib.hid (IE.out.ext T.out)
    replace IF := Lib.hid (IF.out.ext T.out)
    replace Is := Lib.hid (Is.out.ext T.out)
    replace Io := Lib.hid (Io.out.ext T.out)
    replace X := Lib.hid (X.out.trans T.out)
    clear T
    clear Q0 Q1 Q2 QS J0 J1 J2
    have HS : Hid (n2 = n2) := rfl
    clear HS
    cases bo
    · clear HP1 Q3
      go_wp2_with fail
      refine (J3.out ae ce af cf _ (IE.out.ext (by (repeat (first | exact Ext.refl _ | assumption | refine Ext.alloc ?_ _ | refine Ext.drewN ?_ _ | refine Ext.drew ?_)))) (IF.out.ext (by (repeat (first | exact Ext.refl _ | assumption | refine Ext.alloc ?_ _ | refine Ext.drewN ?_ _ | refine Ext.drew ?_))))).mono ?_
      rintro e w9 ⟨v, rfl, o, y⟩
      obtain ⟨au_, cu_, rfl, i⟩ := o.shape
      have Iu := Lib.hid i
      clear o i
      have T := Lib.hid (Ext.trans (show Ext w8 _ by (repeat (first | exact Ext.refl _ | assumption | refine Ext.alloc ?_ _ | refine Ext.drewN ?_ _ | refine Ext.drew ?_))) y)
      clear y
      replace IE := Lib.hid (IE.out.ext T.out)
      replace IF := Lib.hid (IF.out.ext T.out)
      replace Is := Lib.hid (Is.out.ext T.out)
      replace Io := Lib.hid (Io.out.ext T.out)
      replace Im := Lib.hid (Im.out.ext T.out)
      replace X := Lib.hid (X.out.trans T.out)
      clear T
      go_wp2_with fail
      refine (J4.out au_ cu_ _ (Iu.out.ext (by (repeat (first | exact Ext.refl _ | assumption | refine Ext.alloc ?_ _ | refine Ext.drewN ?_ _ | refine Ext.drew ?_))))).mono ?_
      rintro e w10 ⟨v, rfl, o, y⟩
      obtain ⟨al_, cl_, rfl, i⟩ := o.shape
      have Il := Lib.hid i
      clear o i
      have T := Lib.hid (Ext.trans (show Ext w9 _ by (repeat (first | exact Ext.refl _ | assumption | refine Ext.alloc ?_ _ | refine Ext.drewN ?_ _ | refine Ext.drew ?_))) y)
      clear y
      replace IE := Lib.hid (IE.out.ext T.out)
      replace IF := Lib.hid (IF.out.ext T.out)
      replace Is := Lib.hid (Is.out.ext T.out)
      replace Io := Lib.hid (Io.out.ext T.out)
      replace Im := Lib.hid (Im.out.ext T.out)
      replace Iu := Lib.hid (Iu.out.ext T.out)
      replace X := Lib.hid (X.out.trans T.out)
      clear T
      go_wp2_with fail
      refine (J5.out af cf as_ cs_ _ (IF.out.ext (by (repeat (first | exact Ext.refl _ | assumption | refine Ext.alloc ?_ _ | refine Ext.drewN ?_ _ | refine Ext.drew ?_)))) (Is.out.ext (by (repeat (first | exact Ext.refl _ | assumption | refine Ext.alloc ?_ _ | refine Ext.drewN ?_ _ | refine Ext.drew ?_))))).mono ?_
      rintro e w11 ⟨v, rfl, o, y⟩
      obtain ⟨at_, ct_, rfl, i⟩ := o.shape
      have It := Lib.hid i
      clear o i
      have T := Lib.hid (Ext.trans (show Ext w10 _ by (repeat (first | exact Ext.refl _ | assumption | refine Ext.alloc ?_ _ | refine Ext.drewN ?_ _ | refine Ext.drew ?_))) y)
      clear y
      replace IE := Lib.hid (IE.out.ext T.out)
      replace IF := Lib.hid (IF.out.ext T.out)
      replace Is := Lib.hid (Is.out.ext T.out)
      replace Io := Lib.hid (Io.out.ext T.out)
      replace Im := Lib.hid (Im.out.ext T.out)
      replace Iu := Lib.hid (Iu.out.ext T.out)
      replace Il := Lib.hid (Il.out.ext T.out)
      replace X := Lib.hid (X.out.trans T.out)
      clear T
      go_wp2_with fail
      refine (J6.out at_ ct_ _ (It.out.ext (by (repeat (first | exact Ext.refl _ | assumption | refine Ext.alloc ?_ _ | refine Ext.drewN ?_ _ | refine Ext.drew ?_))))).mono ?_
      rintro e w12 ⟨v, rfl, o, y⟩
      obtain ⟨ats_, cts_, rfl, i⟩ := o.shape
      have Its := Lib.hid i
      clear o i
      have T := Lib.hid (Ext.trans (show Ext w11 _ by (repeat (first | exact Ext.refl _ | assumption | refine Ext.alloc ?_ _ | refine Ext.drewN ?_ _ | refine Ext.drew ?_))) y)
      clear y
      replace IE := Lib.hid (IE.out.ext T.out)
      replace IF := Lib.hid (IF.out.ext T.out)
      replace Is := Lib.hid (Is.out.ext T.out)
      replace Io := Lib.hid (Io.out.ext T.out)
      replace Im := Lib.hid (Im.out.ext T.out)
      replace Iu := Lib.hid (Iu.out.ext T.out)
      replace Il := Lib.hid (Il.out.ext T.out)
      replace It := Lib.hid (It.out.ext T.out)
      replace X := Lib.hid (X.out.trans T.out)
      clear T
      go_wp2_with fail
      refine (J7.out as_ cs_ ats_ cts_ _ (Is.out.ext (by (repeat (first | exact Ext.refl _ | assumption | refine Ext.alloc ?_ _ | refine Ext.drewN ?_ _ | refine Ext.drew ?_)))) (Its.out.ext (by (repeat (first | exact Ext.refl _ | assumption | refine Ext.alloc ?_ _ | refine Ext.drewN ?_ _ | refine Ext.drew ?_))))).mono ?_
      rintro e w13 ⟨v, rfl, o, y⟩
      obtain ⟨ar_, cr_, rfl, i⟩ := o.shape
      have Ir := Lib.hid i
      clear o i
      have T := Lib.hid (Ext.trans (show Ext w12 _ by (repeat (first | exact Ext.refl _ | assumption | refine Ext.alloc ?_ _ | refine Ext.drewN ?_ _ | refine Ext.drew ?_))) y)
      clear y
      replace IE := Lib.hid (IE.out.ext T.out)
      replace IF := Lib.hid (IF.out.ext T.out)
      replace Is := Lib.hid (Is.out.ext T.out)
      replace Io := Lib.hid (Io.out.ext T.out)
      replace Im := Lib.hid (Im.out.ext T.out)
      replace Iu := Lib.hid (Iu.out.ext T.out)
      replace Il := Lib.hid (Il.out.ext T.out)
      replace It := Lib.hid (It.out.ext T.out)
      replace Its := Lib.hid (Its.out.ext T.out)
      replace X := Lib.hid (X.out.trans T.out)
      clear T
      clear J3 J4 J5 J6 J7
      cases bp
      · go_wp2_with fail
        refine (alive_c _).mono ?_
        rintro e w' ⟨rfl, rfl⟩
        go_wp2
        go_ret
        exact ⟨rfl, X.out.trans (by (repeat (first | exact Ext.refl _ | assumption | refine Ext.alloc ?_ _ | refine Ext.drewN ?_ _ | refine Ext.drew ?_)))⟩
      · cases bq
        · go_wp2_with fail
          refine (alive_c _).mono ?_
          rintro e w' ⟨rfl, rfl⟩
          go_wp2
          go_ret
          exact ⟨rfl, X.out.trans (by (repeat (first | exact Ext.refl _ | assumption | refine Ext.alloc ?_ _ | refine Ext.drewN ?_ _ | refine Ext.drew ?_)))⟩
        · have h3 : n3 ≠ 0 := HP2.out rfl rfl
          have h31 : (n3 != 0) = true := by simpa using h3
          clear HP2
          go_wp2_with fail
          refine (Q4.out _ al_ ar_ _ _ (Il.out.ext (by (repeat (first | exact Ext.refl _ | assumption | refine Ext.alloc ?_ _ | refine Ext.drewN ?_ _ | refine Ext.drew ?_)))) (Ir.out.ext (by (repeat (first | exact Ext.refl _ | assumption | refine Ext.alloc ?_ _ | refine Ext.drewN ?_ _ | refine Ext.drew ?_))))).mono ?_
          rintro e w14 ⟨rfl, y⟩
          have T := Lib.hid (Ext.trans (show Ext w13 _ by (repeat (first | exact Ext.refl _ | assumption | refine Ext.alloc ?_ _ | refine Ext.drewN ?_ _ | refine Ext.drew ?_))) y)
          clear y
          replace IE := Lib.hid (IE.out.ext T.out)
          replace IF := Lib.hid (IF.out.ext T.out)
          replace Is := Lib.hid (Is.out.ext T.out)
          replace Io := Lib.hid (Io.out.ext T.out)
          replace Im := Lib.hid (Im.out.ext T.out)
          replace Iu := Lib.hid (Iu.out.ext T.out)
          replace Il := Lib.hid (Il.out.ext T.out)
          replace It := Lib.hid (It.out.ext T.out)
          replace Its := Lib.hid (Its.out.ext T.out)
          replace Ir := Lib.hid (Ir.out.ext T.out)
          replace X := Lib.hid (X.out.trans T.out)
          clear T
          go_wp2_with fail
          refine (alive_c _).mono ?_
          rintro e w' ⟨rfl, rfl⟩
          go_wp2
          go_ret
          exact ⟨rfl, X.out.trans (by (repeat (first | exact Ext.refl _ | assumption | refine Ext.alloc ?_ _ | refine Ext.drewN ?_ _ | refine Ext.drew ?_)))⟩
    · cases bc
      · clear HP1 Q3
        go_wp2_with fail
        refine (J3.out ae ce af cf _ (IE.out.ext (by (repeat (first | exact Ext.refl _ | assumption | refine Ext.alloc ?_ _ | refine Ext.drewN ?_ _ | refine Ext.drew ?_)))) (IF.out.ext (by (repeat (first | exact Ext.refl _ | assumption | refine Ext.alloc ?_ _ | refine Ext.drewN ?_ _ | refine Ext.drew ?_))))).mono ?_
        rintro e w9 ⟨v, rfl, o, y⟩
        obtain ⟨au_, cu_, rfl, i⟩ := o.shape
        have Iu := Lib.hid i
        clear o i
        have T := Lib.hid (Ext.trans (show Ext w8 _ by (repeat (first | exact Ext.refl _ | assumption | refine Ext.alloc ?_ _ | refine Ext.drewN ?_ _ | refine Ext.drew ?_))) y)
        clear y
        replace IE := Lib.hid (IE.out.ext T.out)
        replace IF := Lib.hid (IF.out.ext T.out)
        replace Is := Lib.hid (Is.out.ext T.out)
        replace Io := Lib.hid (Io.out.ext T.out)
        replace Im := Lib.hid (Im.out.ext T.out)
        replace X := Lib.hid (X.out.trans T.out)
        clear T
        go_wp2_with fail
        refine (J4.out au_ cu_ _ (Iu.out.ext (by (repeat (first | exact Ext.refl _ | assumption | refine Ext.alloc ?_ _ | refine Ext.drewN ?_ _ | refine Ext.drew ?_))))).mono ?_
        rintro e w10 ⟨v, rfl, o, y⟩
        obtain ⟨al_, cl_, rfl, i⟩ := o.shape
        have Il := Lib.hid i
        clear o i
        have T := Lib.hid (Ext.trans (show Ext w9 _ by (repeat (first | exact Ext.refl _ | assumption | refine Ext.alloc ?_ _ | refine Ext.drewN ?_ _ | refine Ext.drew ?_))) y)
        clear y
        replace IE := Lib.hid (IE.out.ext T.out)
        replace IF := Lib.hid (IF.out.ext T.out)
        replace Is := Lib.hid (Is.out.ext T.out)
        replace Io := Lib.hid (Io.out.ext T.out)
        replace Im := Lib.hid (Im.out.ext T.out)
        replace Iu := Lib.hid (Iu.out.ext T.out)
        replace X := Lib.hid (X.out.trans T.out)
        clear T
        go_wp2_with fail
        refine (J5.out af cf as_ cs_ _ (IF.out.ext (by (repeat (first | exact Ext.refl _ | assumption | refine Ext.alloc ?_ _ | refine Ext.drewN ?_ _ | refine Ext.drew ?_)))) (Is.out.ext (by (repeat (first | exact Ext.refl _ | assumption | refine Ext.alloc ?_ _ | refine Ext.drewN ?_ _ | refine Ext.drew ?_))))).mono ?_
        rintro e w11 ⟨v, rfl, o, y⟩
        obtain ⟨at_, ct_, rfl, i⟩ := o.shape
        have It := Lib.hid i
        clear o i
        have T := Lib.hid (Ext.trans (show Ext w10 _ by (repeat (first | exact Ext.refl _ | assumption | refine Ext.alloc ?_ _ | refine Ext.drewN ?_ _ | refine Ext.drew ?_))) y)
        clear y
        replace IE := Lib.hid (IE.out.ext T.out)
        replace IF := Lib.hid (IF.out.ext T.out)
        replace Is := Lib.hid (Is.out.ext T.out)
        replace Io := Lib.hid (Io.out.ext T.out)
        replace Im := Lib.hid (Im.out.ext T.out)
        replace Iu := Lib.hid (Iu.out.ext T.out)
        replace Il := Lib.hid (Il.out.ext T.out)
        replace X := Lib.hid (X.out.trans T.out)
        clear T
        go_wp2_with fail
        refine (J6.out at_ ct_ _ (It.out.ext (by (repeat (first | exact Ext.refl _ | assumption | refine Ext.alloc ?_ _ | refine Ext.drewN ?_ _ | refine Ext.drew ?_))))).mono ?_
        rintro e w12 ⟨v, rfl, o, y⟩
        obtain ⟨ats_, cts_, rfl, i⟩ := o.shape
        have Its := Lib.hid i
        clear o i
        have T := Lib.hid (Ext.trans (show Ext w11 _ by (repeat (first | exact Ext.refl _ | assumption | refine Ext.alloc ?_ _ | refine Ext.drewN ?_ _ | refine Ext.drew ?_))) y)
        clear y
        replace IE := Lib.hid (IE.out.ext T.out)
        replace IF := Lib.hid (IF.out.ext T.out)
        replace Is := Lib.hid (Is.out.ext T.out)
        replace Io := Lib.hid (Io.out.ext T.out)
        replace Im := Lib.hid (Im.out.ext T.out)
        replace Iu := Lib.hid (Iu.out.ext T.out)
        replace Il := Lib.hid (Il.out.ext T.out)
        replace It := Lib.hid (It.out.ext T.out)
        replace X := Lib.hid (X.out.trans T.out)
        clear T
        go_wp2_with fail
        refine (J7.out as_ cs_ ats_ cts_ _ (Is.out.ext (by (repeat (first | exact Ext.refl _ | assumption | refine Ext.alloc ?_ _ | refine Ext.drewN ?_ _ | refine Ext.drew ?_)))) (Its.out.ext (by (repeat (first | exact Ext.refl _ | assumption | refine Ext.alloc ?_ _ | refine Ext.drewN ?_ _ | refine Ext.drew ?_))))).mono ?_
        rintro e w13 ⟨v, rfl, o, y⟩
        obtain ⟨ar_, cr_, rfl, i⟩ := o.shape
        have Ir := Lib.hid i
        clear o i
        have T := Lib.hid (Ext.trans (show Ext w12 _ by (repeat (first | exact Ext.refl _ | assumption | refine Ext.alloc ?_ _ | refine Ext.drewN ?_ _ | refine Ext.drew ?_))) y)
        clear y
        replace IE := Lib.hid (IE.out.ext T.out)
        replace IF := Lib.hid (IF.out.ext T.out)
        replace Is := Lib.hid (Is.out.ext T.out)
        replace Io := Lib.hid (Io.out.ext T.out)
        replace Im := Lib.hid (Im.out.ext T.out)
        replace Iu := Lib.hid (Iu.out.ext T.out)
        replace Il := Lib.hid (Il.out.ext T.out)
        replace It := Lib.hid (It.out.ext T.out)
        replace Its := Lib.hid (Its.out.ext T.out)
        replace X := Lib.hid (X.out.trans T.out)
        clear T
        clear J3 J4 J5 J6 J7
        cases bp
        · go_wp2_with fail
          refine (alive_c _).mono ?_
          rintro e w' ⟨rfl, rfl⟩
          go_wp2
          go_ret
          exact ⟨rfl, X.out.trans (by (repeat (first | exact Ext.refl _ | assumption | refine Ext.alloc ?_ _ | refine Ext.drewN ?_ _ | refine Ext.drew ?_)))⟩
        · cases bq
          · go_wp2_with fail
            refine (alive_c _).mono ?_
            rintro e w' ⟨rfl, rfl⟩
            go_wp2
            go_ret
            exact ⟨rfl, X.out.trans (by (repeat (first | exact Ext.refl _ | assumption | refine Ext.alloc ?_ _ | refine Ext.drewN ?_ _ | refine Ext.drew ?_)))⟩
          · have h3 : n3 ≠ 0 := HP2.out rfl rfl
            have h31 : (n3 != 0) = true := by simpa using h3
            clear HP2
            go_wp2_with fail
            refine (Q4.out _ al_ ar_ _ _ (Il.out.ext (by (repeat (first | exact Ext.refl _ | assumption | refine Ext.alloc ?_ _ | refine Ext.drewN ?_ _ | refine Ext.drew ?_)))) (Ir.out.ext (by (repeat (first | exact Ext.refl _ | assumption | refine Ext.alloc ?_ _ | refine Ext.drewN ?_ _ | refine Ext.drew ?_))))).mono ?_
            rintro e w14 ⟨rfl, y⟩
            have T := Lib.hid (Ext.trans (show Ext w13 _ by (repeat (first | exact Ext.refl _ | assumption | refine Ext.alloc ?_ _ | refine Ext.drewN ?_ _ | refine Ext.drew ?_))) y)
            clear y
            replace IE := Lib.hid (IE.out.ext T.out)
            replace IF := Lib.hid (IF.out.ext T.out)
            replace Is := Lib.hid (Is.out.ext T.out)
            replace Io := Lib.hid (Io.out.ext T.out)
            replace Im := Lib.hid (Im.out.ext T.out)
            replace Iu := Lib.hid (Iu.out.ext T.out)
            replace Il := Lib.hid (Il.out.ext T.out)
            replace It := Lib.hid (It.out.ext T.out)
            replace Its := Lib.hid (Its.out.ext T.out)
            replace Ir := Lib.hid (Ir.out.ext T.out)
            replace X := Lib.hid (X.out.trans T.out)
            clear T
            go_wp2_with fail
            refine (alive_c _).mono ?_
            rintro e w' ⟨rfl, rfl⟩
            go_wp2
            go_ret
            exact ⟨rfl, X.out.trans (by (repeat (first | exact Ext.refl _ | assumption | refine Ext.alloc ?_ _ | refine Ext.drewN ?_ _ | refine Ext.drew ?_)))⟩
      · have h2 : n2 ≠ 0 := HP1.out rfl rfl
        have h21 : (n2 == 0) = false := by simpa using h2
        clear HP1
        go_wp2_with fail
        refine (Q3.out _ as_ am_ _ _ (Is.out.ext (by (repeat (first | exact Ext.refl _ | assumption | refine Ext.alloc ?_ _ | refine Ext.drewN ?_ _ | refine Ext.drew ?_)))) (Im.out.ext (by (repeat (first | exact Ext.refl _ | assumption | refine Ext.alloc ?_ _ | refine Ext.drewN ?_ _ | refine Ext.drew ?_))))).mono ?_
        rintro e w9 ⟨rfl, y⟩
        have T := Lib.hid (Ext.trans (show Ext w8 _ by (repeat (first | exact Ext.refl _ | assumption | refine Ext.alloc ?_ _ | refine Ext.drewN ?_ _ | refine Ext.drew ?_))) y)
        clear y
        replace IE := Lib.hid (IE.out.ext T.out)
        replace IF := Lib.hid (IF.out.ext T.out)
        replace Is := Lib.hid (Is.out.ext T.out)
        replace Io := Lib.hid (Io.out.ext T.out)
        replace Im := Lib.hid (Im.out.ext T.out)
        replace X := Lib.hid (X.out.trans T.out)
        clear T
        clear Q3
        go_wp2_with fail
        refine (J3.out ae ce af cf _ (IE.out.ext (by (repeat (first | exact Ext.refl _ | assumption | refine Ext.alloc ?_ _ | refine Ext.drewN ?_ _ | refine Ext.drew ?_)))) (IF.out.ext (by (repeat (first | exact Ext.refl _ | assumption | refine Ext.alloc ?_ _ | refine Ext.drewN ?_ _ | refine Ext.drew ?_))))).mono ?_
        rintro e w10 ⟨v, rfl, o, y⟩
        obtain ⟨au_, cu_, rfl, i⟩ := o.shape
        have Iu := Lib.hid i
        clear o i
        have T := Lib.hid (Ext.trans (show Ext w9 _ by (repeat (first | exact Ext.refl _ | assumption | refine Ext.alloc ?_ _ | refine Ext.drewN ?_ _ | refine Ext.drew ?_))) y)
        clear y
        replace IE := Lib.hid (IE.out.ext T.out)
        replace IF := Lib.hid (IF.out.ext T.out)
        replace Is := Lib.hid (Is.out.ext T.out)
        replace Io := Lib.hid (Io.out.ext T.out)
        replace Im := Lib.hid (Im.out.ext T.out)
        replace X := Lib.hid (X.out.trans T.out)
        clear T
        go_wp2_with fail
        refine (J4.out au_ cu_ _ (Iu.out.ext (by (repeat (first | exact Ext.refl _ | assumption | refine Ext.alloc ?_ _ | refine Ext.drewN ?_ _ | refine Ext.drew ?_))))).mono ?_
        rintro e w11 ⟨v, rfl, o, y⟩
        obtain ⟨al_, cl_, rfl, i⟩ := o.shape
        have Il := Lib.hid i
        clear o i
        have T := Lib.hid (Ext.trans (show Ext w10 _ by (repeat (first | exact Ext.refl _ | assumption | refine Ext.alloc ?_ _ | refine Ext.drewN ?_ _ | refine Ext.drew ?_))) y)
        clear y
        replace IE := Lib.hid (IE.out.ext T.out)
        replace IF := Lib.hid (IF.out.ext T.out)
        replace Is := Lib.hid (Is.out.ext T.out)
        replace Io := Lib.hid (Io.out.ext T.out)
        replace Im := Lib.hid (Im.out.ext T.out)
        replace Iu := Lib.hid (Iu.out.ext T.out)
        replace X := Lib.hid (X.out.trans T.out)
        clear T
        go_wp2_with fail
        refine (J5.out af cf as_ cs_ _ (IF.out.ext (by (repeat (first | exact Ext.refl _ | assumption | refine Ext.alloc ?_ _ | refine Ext.drewN ?_ _ | refine Ext.drew ?_)))) (Is.out.ext (by (repeat (first | exact Ext.refl _ | assumption | refine Ext.alloc ?_ _ | refine Ext.drewN ?_ _ | refine Ext.drew ?_))))).mono ?_
        rintro e w12 ⟨v, rfl, o, y⟩
        obtain ⟨at_, ct_, rfl, i⟩ := o.shape
        have It := Lib.hid i
        clear o i
        have T := Lib.hid (Ext.trans (show Ext w11 _ by (repeat (first | exact Ext.refl _ | assumption | refine Ext.alloc ?_ _ | refine Ext.drewN ?_ _ | refine Ext.drew ?_))) y)
        clear y
        replace IE := Lib.hid (IE.out.ext T.out)
        replace IF := Lib.hid (IF.out.ext T.out)
        replace Is := Lib.hid (Is.out.ext T.out)
        replace Io := Lib.hid (Io.out.ext T.out)
        replace Im := Lib.hid (Im.out.ext T.out)
        replace Iu := Lib.hid (Iu.out.ext T.out)
        replace Il := Lib.hid (Il.out.ext T.out)
        replace X := Lib.hid (X.out.trans T.out)
        clear T
        go_wp2_with fail
        refine (J6.out at_ ct_ _ (It.out.ext (by (repeat (first | exact Ext.refl _ | assumption | refine Ext.alloc ?_ _ | refine Ext.drewN ?_ _ | refine Ext.drew ?_))))).mono ?_
        rintro e w13 ⟨v, rfl, o, y⟩
        obtain ⟨ats_, cts_, rfl, i⟩ := o.shape
        have Its := Lib.hid i
        clear o i
        have T := Lib.hid (Ext.trans (show Ext w12 _ by (repeat (first | exact Ext.refl _ | assumption | refine Ext.alloc ?_ _ | refine Ext.drewN ?_ _ | refine Ext.drew ?_))) y)
        clear y
        replace IE := Lib.hid (IE.out.ext T.out)
        replace IF := Lib.hid (IF.out.ext T.out)
        replace Is := Lib.hid (Is.out.ext T.out)
        replace Io := Lib.hid (Io.out.ext T.out)
        replace Im := Lib.hid (Im.out.ext T.out)
        replace Iu := Lib.hid (Iu.out.ext T.out)
        replace Il := Lib.hid (Il.out.ext T.out)
        replace It := Lib.hid (It.out.ext T.out)
        replace X := Lib.hid (X.out.trans T.out)
        clear T
        go_wp2_with fail
        refine (J7.out as_ cs_ ats_ cts_ _ (Is.out.ext (by (repeat (first | exact Ext.refl _ | assumption | refine Ext.alloc ?_ _ | refine Ext.drewN ?_ _ | refine Ext.drew ?_)))) (Its.out.ext (by (repeat (first | exact Ext.refl _ | assumption | refine Ext.alloc ?_ _ | refine Ext.drewN ?_ _ | refine Ext.drew ?_))))).mono ?_
        rintro e w14 ⟨v, rfl, o, y⟩
        obtain ⟨ar_, cr_, rfl, i⟩ := o.shape
        have Ir := Lib.hid i
        clear o i
        have T := Lib.hid (Ext.trans (show Ext w13 _ by (repeat (first | exact Ext.refl _ | assumption | refine Ext.alloc ?_ _ | refine Ext.drewN ?_ _ | refine Ext.drew ?_))) y)
        clear y
        replace IE := Lib.hid (IE.out.ext T.out)
        replace IF := Lib.hid (IF.out.ext T.out)
        replace Is := Lib.hid (Is.out.ext T.out)
        replace Io := Lib.hid (Io.out.ext T.out)
        replace Im := Lib.hid (Im.out.ext T.out)
        replace Iu := Lib.hid (Iu.out.ext T.out)
        replace Il := Lib.hid (Il.out.ext T.out)
        replace It := Lib.hid (It.out.ext T.out)
        replace Its := Lib.hid (Its.out.ext T.out)
        replace X := Lib.hid (X.out.trans T.out)
        clear T
        clear J3 J4 J5 J6 J7
        cases bp
        · go_wp2_with fail
          refine (alive_c _).mono ?_
          rintro e w' ⟨rfl, rfl⟩
          go_wp2
          go_ret
          exact ⟨rfl, X.out.trans (by (repeat (first | exact Ext.refl _ | assumption | refine Ext.alloc ?_ _ | refine Ext.drewN ?_ _ | refine Ext.drew ?_)))⟩
        · cases bq
          · go_wp2_with fail
            refine (alive_c _).mono ?_
            rintro e w' ⟨rfl, rfl⟩
            go_wp2
            go_ret
            exact ⟨rfl, X.out.trans (by (repeat (first | exact Ext.refl _ | assumption | refine Ext.alloc ?_ _ | refine Ext.drewN ?_ _ | refine Ext.drew ?_)))⟩
          · have h3 : n3 ≠ 0 := HP2.out rfl rfl
            have h31 : (n3 != 0) = true := by simpa using h3
            clear HP2
            go_wp2_with fail
            refine (Q4.out _ al_ ar_ _ _ (Il.out.ext (by (repeat (first | exact Ext.refl _ | assumption | refine Ext.alloc ?_ _ | refine Ext.drewN ?_ _ | refine Ext.drew ?_)))) (Ir.out.ext (by (repeat (first | exact Ext.refl _ | assumption | refine Ext.alloc ?_ _ | refine Ext.drewN ?_ _ | refine Ext.drew ?_))))).mono ?_
            rintro e w15 ⟨rfl, y⟩
            have T := Lib.hid (Ext.trans (show Ext w14 _ by (repeat (first | exact Ext.refl _ | assumption | refine Ext.alloc ?_ _ | refine Ext.drewN ?_ _ | refine Ext.drew ?_))) y)
            clear y
            replace IE := Lib.hid (IE.out.ext T.out)
            replace IF := Lib.hid (IF.out.ext T.out)
            replace Is := Lib.hid (Is.out.ext T.out)
            replace Io := Lib.hid (Io.out.ext T.out)
            replace Im := Lib.hid (Im.out.ext T.out)
            replace Iu := Lib.hid (Iu.out.ext T.out)
            replace Il := Lib.hid (Il.out.ext T.out)
            replace It := Lib.hid (It.out.ext T.out)
            replace Its := Lib.hid (Its.out.ext T.out)
            replace Ir := Lib.hid (Ir.out.ext T.out)
            replace X := Lib.hid (X.out.trans T.out)
            clear T
            go_wp2_with fail
            refine (alive_c _).mono ?_
            rintro e w' ⟨rfl, rfl⟩
            go_wp2
            go_ret
            exact ⟨rfl, X.out.trans (by (repeat (first | exact Ext.refl _ | assumption | refine Ext.alloc ?_ _ | refine Ext.drewN ?_ _ | refine Ext.drew ?_)))⟩
  · go_enter Tryz.func8, Tryz.ntmps8
    go_wp2
    go_ret
    exact ⟨rfl, Ext.refl _⟩
end Go.Proofs.YtlaamecfknkmlaaGreat
