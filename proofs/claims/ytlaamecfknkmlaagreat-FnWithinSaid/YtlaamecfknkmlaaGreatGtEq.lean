/- Merged texts: contracts and plain lemmas (Eq). -/
import Derived.Test.YtlaamecfknkmlaaGreatGtDf
import Derived.Test.YtlaamecfknkmlaaGreatGtSq
import Derived.Test.YtlaamecfknkmlaaGreatGtNh
import Derived.Test.YtlaamecfknkmlaaGreatGt15
namespace Go.Kt
set_option linter.unusedVariables false
theorem eqF_some {e f : List Int} (h : (difO e f).isSome = true) : eqF e f = 0 := by
  unfold eqF
  cases hk : okB e f (prsF e f)
  · rw [if_neg (by simp), h]; rfl
  · have := difO_ok ((okB_iff e f _).1 hk)
    rw [this] at h; cases h
theorem eqF_none {e f : List Int} (h : (difO e f).isSome = false) : eqF e f = if okB e f (prsF e f) then 1 else -1 := by
  unfold eqF
  rw [h]; rfl
/-- What Within answers. -/
def wiF (e f : List Int) : Int := if jnB [e, f] 20 then eqF (jnL [e, f] 20) f else -1
theorem jn_plus (a b : List Int) : (kvB a && kvB b && kvB (a ++ b ++ [20])) = jnB [a, b] 20 := by
  unfold jnB
  cases ha : kvB a
  · simp [ha]
  · cases hb : kvB b
    · simp [ha, hb]
    · obtain ⟨s, hs, rfl⟩ := kvB_tree ha
      obtain ⟨t, ht, rfl⟩ := kvB_tree hb
      have h : s.words ++ t.words ++ [20] = (Kt.two 20 s t).words := by simp [Kt.words]
      have h2 := kvB_words (t := Kt.two 20 s t) ⟨.inr rfl, hs, ht⟩
      rw [← h] at h2
      rw [h2]
      simp [ha, hb]
end Go.Kt
namespace Go.Proofs.YtlaamecfknkmlaaGreat
set_option linter.unusedVariables false
open Go.RowKit Go.Kt Go.Sort
theorem jn_keep (a b : List Int) : keepL (kvB a && kvB b && kvB (a ++ b ++ [20])) (a ++ b ++ [20]) = jnL [a, b] 20 := by
  rw [jn_plus]
  unfold keepL jnL
  cases jnB [a, b] 20
  · rfl
  · simp
set_option maxRecDepth 100000 in
set_option maxHeartbeats 2000000 in
theorem sEqual_c (a b : Option Addr) (c d : Nat) (e f : List Int) (w : World) (he : IntsAt w a e) (hf : IntsAt w b f) (hle : e.length ≤ 4194304) (hlf : f.length ≤ 4194304) :
    Calls Tryz.prog 41 #[.slice a e.length c, .slice b f.length d] w fun r w' => r = .returned (.int .i64 (eqF e f)) ∧ Ext w w' := by
  have CP : Hid (∀ w', Ext w w' → Calls Tryz.prog 53 #[.slice a e.length c, .slice b f.length d] w' (RetLs (ek 3) 23 w' (prsF e f))) := fun w' x => sPairsOf_c a b c d e f w' (he.ext x) (hf.ext x) hle hlf (fun _ => False) (fun _ h => h.elim)
  have CK : Hid (∀ w' ar cr, Ext w w' → RowsAt w' ar (prsF e f) → Calls Tryz.prog 12 #[.slice a e.length c, .slice b f.length d, .slice ar (prsF e f).length cr] w' fun r w'' => r = .returned (.bool (okB e f (prsF e f))) ∧ Ext w' w'') := fun w' ar cr x h => sPairsOk_c a b ar c d cr e f (prsF e f) w' (he.ext x) (hf.ext x) h hle hlf (by have := prsF_few e f; omega)
  have CD : Hid (∀ w', Ext w w' → Calls Tryz.prog 38 #[.slice a e.length c, .slice b f.length d] w' (RetTr w' (difO e f))) := fun w' x => sDiffer_c a b c d e f w' (he.ext x) (hf.ext x) hle hlf
  clear he hf
  cases ho : (difO e f).isSome
  · cases hk : okB e f (prsF e f)
    all_goals
      have HF := Lib.hid (eqF_none ho)
      rw [hk] at HF
      have HO := Lib.hid ho
      have HK := Lib.hid hk
      clear hk ho
      generalize e.length = ne at *
      generalize f.length = nf at *
      go_enter Tryz.func41, Tryz.ntmps41
      go_wp2_with fail
      refine (CD.out _ (by (repeat (first | exact Ext.refl _ | assumption | refine Ext.alloc ?_ _ | refine Ext.drewN ?_ _ | refine Ext.drew ?_)))).mono ?_
      rintro r w3 ⟨a3, c3, rfl, -, x3⟩
      rw [HO.out]
      have X3 := Lib.hid (Ext.trans (show Ext w _ by (repeat (first | exact Ext.refl _ | assumption | refine Ext.alloc ?_ _ | refine Ext.drewN ?_ _ | refine Ext.drew ?_))) x3)
      clear x3
      generalize ((difO e f).getD []).length = no at *
      go_wp2_with fail
      refine (CP.out _ (X3.out.trans (by (repeat (first | exact Ext.refl _ | assumption | refine Ext.alloc ?_ _ | refine Ext.drewN ?_ _ | refine Ext.drew ?_))))).mono ?_
      rintro r w1 ⟨v1, rfl, o1, x1⟩
      obtain ⟨a1, c1, rfl⟩ := o1.shape
      have X1 := Lib.hid (X3.out.trans (Ext.trans (by (repeat (first | exact Ext.refl _ | assumption | refine Ext.alloc ?_ _ | refine Ext.drewN ?_ _ | refine Ext.drew ?_))) x1))
      have R1 := Lib.hid o1.rows
      clear o1 x1
      go_wp2_with fail
      refine (CK.out _ _ _ (X1.out.trans (by (repeat (first | exact Ext.refl _ | assumption | refine Ext.alloc ?_ _ | refine Ext.drewN ?_ _ | refine Ext.drew ?_)))) (R1.out.ext (by (repeat (first | exact Ext.refl _ | assumption | refine Ext.alloc ?_ _ | refine Ext.drewN ?_ _ | refine Ext.drew ?_))))).mono ?_
      rw [HK.out]
      rintro r w2 ⟨rfl, x2⟩
      have X2 := Lib.hid (X1.out.trans (Ext.trans (by (repeat (first | exact Ext.refl _ | assumption | refine Ext.alloc ?_ _ | refine Ext.drewN ?_ _ | refine Ext.drew ?_))) x2))
      clear x2
      go_wp2
      go_ret
      exact ⟨by rw [HF.out]; rfl, X2.out.trans (by (repeat (first | exact Ext.refl _ | assumption | refine Ext.alloc ?_ _ | refine Ext.drewN ?_ _ | refine Ext.drew ?_)))⟩
  · have HF := Lib.hid (eqF_some ho)
    have HO := Lib.hid ho
    clear ho CP CK
    generalize e.length = ne at *
    generalize f.length = nf at *
    go_enter Tryz.func41, Tryz.ntmps41
    go_wp2_with fail
    refine (CD.out _ (by (repeat (first | exact Ext.refl _ | assumption | refine Ext.alloc ?_ _ | refine Ext.drewN ?_ _ | refine Ext.drew ?_)))).mono ?_
    rintro r w3 ⟨a3, c3, rfl, -, x3⟩
    rw [HO.out]
    have X3 := Lib.hid (Ext.trans (show Ext w _ by (repeat (first | exact Ext.refl _ | assumption | refine Ext.alloc ?_ _ | refine Ext.drewN ?_ _ | refine Ext.drew ?_))) x3)
    clear x3
    generalize ((difO e f).getD []).length = no at *
    go_wp2
    go_ret
    exact ⟨by rw [HF.out]; rfl, X3.out.trans (by (repeat (first | exact Ext.refl _ | assumption | refine Ext.alloc ?_ _ | refine Ext.drewN ?_ _ | refine Ext.drew ?_)))⟩
set_option maxRecDepth 100000 in
set_option maxHeartbeats 2000000 in
theorem sWithin_c (a b : Option Addr) (c d : Nat) (e f : List Int) (w : World) (he : IntsAt w a e) (hf : IntsAt w b f) (hle : e.length ≤ 1048576) (hlf : f.length ≤ 1048576) :
    Calls Tryz.prog 28 #[.slice a e.length c, .slice b f.length d] w fun r w' => r = .returned (.int .i64 (wiF e f)) ∧ Ext w w' := by
  have CP : Hid (∀ w', Ext w w' → Calls Tryz.prog 95 #[.slice a e.length c, .slice b f.length d] w' (RetIB w' (jnL [e, f] 20) (jnB [e, f] 20))) := fun w' x => by
    rw [← jn_plus, ← jn_keep]
    exact sKatPlus_c a b c d e f w' (he.ext x) (hf.ext x) hle hlf
  have CE : Hid (∀ w' ar cr, Ext w w' → IntsAt w' ar (jnL [e, f] 20) → Calls Tryz.prog 41 #[.slice ar (jnL [e, f] 20).length cr, .slice b f.length d] w' fun r w'' => r = .returned (.int .i64 (eqF (jnL [e, f] 20) f)) ∧ Ext w' w'') := fun w' ar cr x h => sEqual_c ar b cr d _ f w' h (hf.ext x) (by have := jnL_len [e, f] 20; omega) (by omega)
  clear he hf
  cases hb : jnB [e, f] 20
  all_goals
    have HF : Hid (wiF e f = if jnB [e, f] 20 then eqF (jnL [e, f] 20) f else -1) := rfl
    rw [hb] at HF CP
    clear hb
    generalize wiF e f = rf at *
    generalize eqF (jnL [e, f] 20) f = re at *
    generalize jnL [e, f] 20 = L at *
    generalize e.length = ne at *
    generalize f.length = nf at *
    go_enter Tryz.func28, Tryz.ntmps28
    go_wp2_with fail
    refine (CP.out _ (by (repeat (first | exact Ext.refl _ | assumption | refine Ext.alloc ?_ _ | refine Ext.drewN ?_ _ | refine Ext.drew ?_)))).mono ?_
    rintro r w1 ⟨v1, rfl, o1, x1⟩
    obtain ⟨a1, c1, rfl, i1⟩ := o1.shape
    have X1 := Lib.hid (Ext.trans (show Ext w _ by (repeat (first | exact Ext.refl _ | assumption | refine Ext.alloc ?_ _ | refine Ext.drewN ?_ _ | refine Ext.drew ?_))) x1)
    have I1 := Lib.hid i1
    clear o1 x1 i1
    first
      | (go_wp2_with fail
         refine (CE.out _ _ _ (X1.out.trans (by (repeat (first | exact Ext.refl _ | assumption | refine Ext.alloc ?_ _ | refine Ext.drewN ?_ _ | refine Ext.drew ?_)))) (I1.out.ext (by (repeat (first | exact Ext.refl _ | assumption | refine Ext.alloc ?_ _ | refine Ext.drewN ?_ _ | refine Ext.drew ?_))))).mono ?_
         rintro r w2 ⟨rfl, x2⟩
         have X2 := Lib.hid (X1.out.trans (Ext.trans (by (repeat (first | exact Ext.refl _ | assumption | refine Ext.alloc ?_ _ | refine Ext.drewN ?_ _ | refine Ext.drew ?_))) x2))
         clear x2
         go_wp2
         go_ret
         exact ⟨by rw [HF.out]; rfl, X2.out.trans (by (repeat (first | exact Ext.refl _ | assumption | refine Ext.alloc ?_ _ | refine Ext.drewN ?_ _ | refine Ext.drew ?_)))⟩)
      | (go_wp2
         go_ret
         exact ⟨by rw [HF.out]; rfl, X1.out.trans (by (repeat (first | exact Ext.refl _ | assumption | refine Ext.alloc ?_ _ | refine Ext.drewN ?_ _ | refine Ext.drew ?_)))⟩)
set_option maxRecDepth 100000 in
set_option maxHeartbeats 2000000 in
theorem iWithin_c (a b : Option Addr) (c d : Nat) (e f : List Int) (w : World) (he : IntsAt w a e) (hf : IntsAt w b f) (hle : e.length ≤ 1048576) (hlf : f.length ≤ 1048576) :
    Calls Tryz.prog 27 #[.slice a e.length c, .slice b f.length d] w fun r w' => r = .returned (.int .i64 (wiF e f)) ∧ Ext w w' := by
  have CP : Hid (∀ w', Ext w w' → Calls Tryz.prog 44 #[.slice a e.length c, .slice b f.length d] w' (RetIB w' (jnL [e, f] 20) (jnB [e, f] 20))) := fun w' x => iKatPlusA_c a b c d e f w' (he.ext x) (hf.ext x) hle hlf
  have CE : Hid (∀ w' ar cr, Ext w w' → IntsAt w' ar (jnL [e, f] 20) → Calls Tryz.prog 29 #[.slice ar (jnL [e, f] 20).length cr, .slice b f.length d] w' fun r w'' => r = .returned (.int .i64 (eqF (jnL [e, f] 20) f)) ∧ Ext w' w'') := fun w' ar cr x h => iEqual_c ar b cr d _ f w' h (hf.ext x) (by have := jnL_len [e, f] 20; omega) (by omega)
  clear he hf
  cases hb : jnB [e, f] 20
  all_goals
    have HF : Hid (wiF e f = if jnB [e, f] 20 then eqF (jnL [e, f] 20) f else -1) := rfl
    rw [hb] at HF CP
    clear hb
    generalize wiF e f = rf at *
    generalize eqF (jnL [e, f] 20) f = re at *
    generalize jnL [e, f] 20 = L at *
    generalize e.length = ne at *
    generalize f.length = nf at *
    go_enter Tryz.func27, Tryz.ntmps27
    go_wp2_with fail
    refine (CP.out _ (by (repeat (first | exact Ext.refl _ | assumption | refine Ext.alloc ?_ _ | refine Ext.drewN ?_ _ | refine Ext.drew ?_)))).mono ?_
    rintro r w1 ⟨v1, rfl, o1, x1⟩
    obtain ⟨a1, c1, rfl, i1⟩ := o1.shape
    have X1 := Lib.hid (Ext.trans (show Ext w _ by (repeat (first | exact Ext.refl _ | assumption | refine Ext.alloc ?_ _ | refine Ext.drewN ?_ _ | refine Ext.drew ?_))) x1)
    have I1 := Lib.hid i1
    clear o1 x1 i1
    first
      | (go_wp2_with fail
         refine (CE.out _ _ _ (X1.out.trans (by (repeat (first | exact Ext.refl _ | assumption | refine Ext.alloc ?_ _ | refine Ext.drewN ?_ _ | refine Ext.drew ?_)))) (I1.out.ext (by (repeat (first | exact Ext.refl _ | assumption | refine Ext.alloc ?_ _ | refine Ext.drewN ?_ _ | refine Ext.drew ?_))))).mono ?_
         rintro r w2 ⟨rfl, x2⟩
         have X2 := Lib.hid (X1.out.trans (Ext.trans (by (repeat (first | exact Ext.refl _ | assumption | refine Ext.alloc ?_ _ | refine Ext.drewN ?_ _ | refine Ext.drew ?_))) x2))
         clear x2
         go_wp2
         go_ret
         exact ⟨by rw [HF.out]; rfl, X2.out.trans (by (repeat (first | exact Ext.refl _ | assumption | refine Ext.alloc ?_ _ | refine Ext.drewN ?_ _ | refine Ext.drew ?_)))⟩)
      | (go_wp2
         go_ret
         exact ⟨by rw [HF.out]; rfl, X1.out.trans (by (repeat (first | exact Ext.refl _ | assumption | refine Ext.alloc ?_ _ | refine Ext.drewN ?_ _ | refine Ext.drew ?_)))⟩)
end Go.Proofs.YtlaamecfknkmlaaGreat
