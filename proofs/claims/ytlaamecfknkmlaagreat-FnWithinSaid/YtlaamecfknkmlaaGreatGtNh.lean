/- Merged texts: contracts and plain lemmas (Nh). -/
import Derived.Test.YtlaamecfknkmlaaGreatGtNg
import Derived.Test.YtlaamecfknkmlaaGreatGt7
namespace Go.Kt
set_option linter.unusedVariables false
theorem difO_off {e f : List Int} (h : (auB e && auB f) = false) : difO e f = none := by unfold difO difB; rw [h]; rfl
theorem difO_many {e f : List Int} (h : prB (auN e) (auN f) = false) : difO e f = none := by unfold difO difB; rw [h, Bool.and_false]; rfl
theorem difO_on {e f : List Int} (h : (auB e && auB f) = true) (hp : prB (auN e) (auN f) = true) : difO e f = dfF (auE e) (auE f) (auN e) (auN f) 21 0 := by unfold difO difB; rw [h, hp]; rfl
theorem prsF_few (e f : List Int) : (prsF e f).length ≤ 100 := by
  unfold prsF
  split
  · rw [List.length_map]; unfold prL
    split
    · rename_i h; unfold prB at h; simpa using h
    · simp
  · simp
end Go.Kt
namespace Go.Proofs.YtlaamecfknkmlaaGreat
set_option linter.unusedVariables false
open Go.RowKit Go.Kt
set_option maxRecDepth 100000 in
set_option maxHeartbeats 2000000 in
theorem iDiffer_c (a b : Option Addr) (c d : Nat) (e f : List Int) (w : World) (he : IntsAt w a e) (hf : IntsAt w b f) (hle : e.length ≤ 4194304) (hlf : f.length ≤ 4194304) :
    Calls Tryz.prog 17 #[.slice a e.length c, .slice b f.length d] w (RetTr w (difO e f)) := by
  have CA : Hid (∀ w', Ext w w' → Calls Tryz.prog 55 #[.slice a e.length c, .slice b f.length d] w' (RetAs w' e f)) := fun w' x => autosOf_c a b c d e f w' (he.ext x) (hf.ext x) hle hlf
  have CP : Hid (auB e = true → auB f = true → ∀ w' v, TogAt w' e f v → Calls Tryz.prog 76 #[v] w' (RetPr w' (auN e) (auN f))) := fun h1 h2 w' v h => by
    obtain ⟨a1, c1, a2, c2, b1, d1, b2, d2, rfl, i1, i2, i3, i4⟩ := h
    exact pairs_c e f a1 c1 a2 c2 b1 d1 b2 d2 w' i1 i2 i3 i4 h1 h2
  have CF : Hid (auB e = true → auB f = true → ∀ w' v, TogAt w' e f v → Calls Tryz.prog 77 #[.agg #[.int .i64 1, .int .i64 1], .func (.func 58) #[v] #[], .func (.func 57) #[v] #[]] w' (RetTr w' (dfF (auE e) (auE f) (auN e) (auN f) 21 0))) := fun h1 h2 w' v h => by
    obtain ⟨a1, c1, a2, c2, b1, d1, b2, d2, rfl, i1, i2, i3, i4⟩ := h
    exact firstTrace_c e f a1 c1 a2 c2 b1 d1 b2 d2 w' i1 i2 i3 i4 h1 h2
  have HNone : Hid (difO e f = none → ∀ w', Ext w w' → RetTr w (difO e f) (.returned (.tuple #[.slice none 0 0, .bool false])) w') := fun h w' x => by
    rw [h]; exact ⟨none, 0, rfl, ⟨0, 0, fun h => absurd h (by simp), fun i hi => absurd hi (by simp)⟩, x⟩
  clear he hf
  cases hb : (auB e && auB f)
  · have HR := Lib.hid (HNone.out (difO_off hb))
    clear HNone CP CF
    generalize RetTr w (difO e f) = FQ at *
    generalize e.length = ne at *
    generalize f.length = nf at *
    go_enter Tryz.func17, Tryz.ntmps17
    go_wp2_with fail
    refine (CA.out _ (by (repeat (first | exact Ext.refl _ | assumption | refine Ext.alloc ?_ _ | refine Ext.drewN ?_ _ | refine Ext.drew ?_)))).mono ?_
    rintro r w1 ⟨v, rfl, hv, x1⟩
    obtain ⟨a1, c1, a2, c2, b1, d1, b2, d2, rfl, -⟩ := hv
    rw [hb]
    have X1 := Lib.hid (Ext.trans (show Ext w _ by (repeat (first | exact Ext.refl _ | assumption | refine Ext.alloc ?_ _ | refine Ext.drewN ?_ _ | refine Ext.drew ?_))) x1)
    clear x1 CA
    go_wp2
    exact HR.out _ (X1.out.trans (by (repeat (first | exact Ext.refl _ | assumption | refine Ext.alloc ?_ _ | refine Ext.drewN ?_ _ | refine Ext.drew ?_))))
  · have h1 : auB e = true := by rw [Bool.and_eq_true] at hb; exact hb.1
    have h2 : auB f = true := by rw [Bool.and_eq_true] at hb; exact hb.2
    have CP2 := Lib.hid (CP.out h1 h2)
    have CF2 := Lib.hid (CF.out h1 h2)
    clear CP CF h1 h2
    cases hp : prB (auN e) (auN f)
    · have HR := Lib.hid (HNone.out (difO_many hp))
      have HP := Lib.hid hp
      clear HNone CF2 hp
      generalize RetTr w (difO e f) = FQ at *
      generalize e.length = ne at *
      generalize f.length = nf at *
      go_enter Tryz.func17, Tryz.ntmps17
      go_wp2_with fail
      refine (CA.out _ (by (repeat (first | exact Ext.refl _ | assumption | refine Ext.alloc ?_ _ | refine Ext.drewN ?_ _ | refine Ext.drew ?_)))).mono ?_
      rintro r w1 ⟨v, rfl, hv, x1⟩
      have HV := Lib.hid hv
      have X1 := Lib.hid (Ext.trans (show Ext w _ by (repeat (first | exact Ext.refl _ | assumption | refine Ext.alloc ?_ _ | refine Ext.drewN ?_ _ | refine Ext.drew ?_))) x1)
      obtain ⟨a1, c1, a2, c2, b1, d1, b2, d2, rfl, -⟩ := hv
      rw [hb]
      clear x1 CA hb
      generalize (auE e).length = nE at *
      generalize (auN e).length = nN at *
      generalize (auE f).length = nF at *
      generalize (auN f).length = nM at *
      go_wp2_with fail
      refine (CP2.out _ _ (HV.out.ext (by (repeat (first | exact Ext.refl _ | assumption | refine Ext.alloc ?_ _ | refine Ext.drewN ?_ _ | refine Ext.drew ?_))))).mono ?_
      rintro r w2 ⟨vL, rfl, oL, x2⟩
      rw [HP.out]
      have X2 := Lib.hid (X1.out.trans (Ext.trans (show Ext w1 _ by (repeat (first | exact Ext.refl _ | assumption | refine Ext.alloc ?_ _ | refine Ext.drewN ?_ _ | refine Ext.drew ?_))) x2))
      clear oL x2 CP2
      go_wp2
      exact HR.out _ (X2.out.trans (by (repeat (first | exact Ext.refl _ | assumption | refine Ext.alloc ?_ _ | refine Ext.drewN ?_ _ | refine Ext.drew ?_))))
    · have HO : Hid (difO e f = dfF (auE e) (auE f) (auN e) (auN f) 21 0) := difO_on hb hp
      have HP := Lib.hid hp
      have HR : Hid (∀ a c w', IntsAt w' a ((dfF (auE e) (auE f) (auN e) (auN f) 21 0).getD []) → Ext w w' → RetTr w (difO e f) (.returned (.tuple #[.slice a ((dfF (auE e) (auE f) (auN e) (auN f) 21 0).getD []).length c, .bool (dfF (auE e) (auE f) (auN e) (auN f) 21 0).isSome])) w') := fun a c w' i x => by
        rw [HO.out]; exact ⟨a, c, rfl, i, x⟩
      clear HNone hp HO
      generalize RetTr w (difO e f) = FQ at *
      generalize dfF (auE e) (auE f) (auN e) (auN f) 21 0 = o at *
      generalize e.length = ne at *
      generalize f.length = nf at *
      go_enter Tryz.func17, Tryz.ntmps17
      go_wp2_with fail
      refine (CA.out _ (by (repeat (first | exact Ext.refl _ | assumption | refine Ext.alloc ?_ _ | refine Ext.drewN ?_ _ | refine Ext.drew ?_)))).mono ?_
      rintro r w1 ⟨v, rfl, hv, x1⟩
      have HV := Lib.hid hv
      have X1 := Lib.hid (Ext.trans (show Ext w _ by (repeat (first | exact Ext.refl _ | assumption | refine Ext.alloc ?_ _ | refine Ext.drewN ?_ _ | refine Ext.drew ?_))) x1)
      obtain ⟨a1, c1, a2, c2, b1, d1, b2, d2, rfl, -⟩ := hv
      rw [hb]
      clear x1 CA hb
      generalize (auE e).length = nE at *
      generalize (auN e).length = nN at *
      generalize (auE f).length = nF at *
      generalize (auN f).length = nM at *
      go_wp2_with fail
      refine (CP2.out _ _ (HV.out.ext (by (repeat (first | exact Ext.refl _ | assumption | refine Ext.alloc ?_ _ | refine Ext.drewN ?_ _ | refine Ext.drew ?_))))).mono ?_
      rintro r w2 ⟨vL, rfl, oL, x2⟩
      obtain ⟨aL, cL, rfl⟩ := oL.shape
      rw [HP.out]
      have X2a := Lib.hid (Ext.trans (show Ext w1 _ by (repeat (first | exact Ext.refl _ | assumption | refine Ext.alloc ?_ _ | refine Ext.drewN ?_ _ | refine Ext.drew ?_))) x2)
      have hb1 : BoxT w1.heap.size (.slice a1 nE c1) (.slice a2 nN c2) (.slice b1 nF d1) (.slice b2 nM d2) w2 := BoxT.ext (w := w1.alloc (.cells #[.slice a1 nE c1, .slice a2 nN c2, .slice b1 nF d1, .slice b2 nM d2] 65)) (by simp [BoxT, go_sem]) (by first | exact x2 | exact Ext.trans (by (repeat (first | exact Ext.refl _ | assumption | refine Ext.alloc ?_ _ | refine Ext.drewN ?_ _ | refine Ext.drew ?_))) x2)
      have hzb := lt_of_cell hb1.1
      obtain ⟨k0, k1, k2, k3⟩ := hb1
      clear oL x2 CP2
      go_wp2_with fail
      refine (CF2.out _ _ (HV.out.ext (X2a.out.trans (by (repeat (first | exact Ext.refl _ | assumption | refine Ext.alloc ?_ _ | refine Ext.drewN ?_ _ | refine Ext.drew ?_)))))).mono ?_
      rintro r w3 ⟨a3, c3, rfl, i3, x3⟩
      have HW := Lib.hid (HR.out a3 c3 w3 i3 (X1.out.trans (X2a.out.trans (Ext.trans (by (repeat (first | exact Ext.refl _ | assumption | refine Ext.alloc ?_ _ | refine Ext.drewN ?_ _ | refine Ext.drew ?_))) x3))))
      clear i3 x3 CF2 k0 k1 k2 k3
      generalize (o.getD []).length = no at *
      generalize o.isSome = oo at *
      go_wp2
      exact HW.out
set_option maxRecDepth 100000 in
set_option maxHeartbeats 2000000 in
theorem iEqual_c (a b : Option Addr) (c d : Nat) (e f : List Int) (w : World) (he : IntsAt w a e) (hf : IntsAt w b f) (hle : e.length ≤ 4194304) (hlf : f.length ≤ 4194304) :
    Calls Tryz.prog 29 #[.slice a e.length c, .slice b f.length d] w fun r w' => r = .returned (.int .i64 (eqF e f)) ∧ Ext w w' := by
  have CP : Hid (∀ w', Ext w w' → Calls Tryz.prog 96 #[.slice a e.length c, .slice b f.length d] w' (RetRows w' (prsF e f))) := fun w' x => pairsOf_c a b c d e f w' (he.ext x) (hf.ext x) hle hlf
  have CK : Hid (∀ w' ar cr, Ext w w' → RowsAt w' ar (prsF e f) → Calls Tryz.prog 11 #[.slice a e.length c, .slice b f.length d, .slice ar (prsF e f).length cr] w' fun r w'' => r = .returned (.bool (okB e f (prsF e f))) ∧ Ext w' w'') := fun w' ar cr x h => pairsOk_c a b ar c d cr e f (prsF e f) w' (he.ext x) (hf.ext x) h hle hlf (by have := prsF_few e f; omega)
  have CD : Hid (∀ w', Ext w w' → Calls Tryz.prog 17 #[.slice a e.length c, .slice b f.length d] w' (RetTr w' (difO e f))) := fun w' x => iDiffer_c a b c d e f w' (he.ext x) (hf.ext x) hle hlf
  clear he hf
  cases hk : okB e f (prsF e f)
  · cases ho : (difO e f).isSome
    all_goals
      have HF : Hid (eqF e f = if (difO e f).isSome then 0 else -1) := by unfold Hid eqF; rw [hk]; rfl
      rw [ho] at HF
      have HO := Lib.hid ho
      have HK := Lib.hid hk
      clear hk ho
      generalize e.length = ne at *
      generalize f.length = nf at *
      go_enter Tryz.func29, Tryz.ntmps29
      go_wp2_with fail
      refine (CP.out _ (by (repeat (first | exact Ext.refl _ | assumption | refine Ext.alloc ?_ _ | refine Ext.drewN ?_ _ | refine Ext.drew ?_)))).mono ?_
      rintro r w1 ⟨a1, c1, rfl, r1, x1⟩
      have X1 := Lib.hid (Ext.trans (show Ext w _ by (repeat (first | exact Ext.refl _ | assumption | refine Ext.alloc ?_ _ | refine Ext.drewN ?_ _ | refine Ext.drew ?_))) x1)
      have R1 := Lib.hid r1
      clear r1 x1
      go_wp2_with fail
      refine (CK.out _ _ _ (X1.out.trans (by (repeat (first | exact Ext.refl _ | assumption | refine Ext.alloc ?_ _ | refine Ext.drewN ?_ _ | refine Ext.drew ?_)))) (R1.out.ext (by (repeat (first | exact Ext.refl _ | assumption | refine Ext.alloc ?_ _ | refine Ext.drewN ?_ _ | refine Ext.drew ?_))))).mono ?_
      rw [HK.out]
      rintro r w2 ⟨rfl, x2⟩
      have X2 := Lib.hid (X1.out.trans (Ext.trans (by (repeat (first | exact Ext.refl _ | assumption | refine Ext.alloc ?_ _ | refine Ext.drewN ?_ _ | refine Ext.drew ?_))) x2))
      clear x2
      go_wp2_with fail
      refine (CD.out _ (X2.out.trans (by (repeat (first | exact Ext.refl _ | assumption | refine Ext.alloc ?_ _ | refine Ext.drewN ?_ _ | refine Ext.drew ?_))))).mono ?_
      rintro r w3 ⟨a3, c3, rfl, -, x3⟩
      rw [HO.out]
      have X3 := Lib.hid (X2.out.trans (Ext.trans (by (repeat (first | exact Ext.refl _ | assumption | refine Ext.alloc ?_ _ | refine Ext.drewN ?_ _ | refine Ext.drew ?_))) x3))
      clear x3
      generalize ((difO e f).getD []).length = no at *
      go_wp2
      go_ret
      exact ⟨by rw [HF.out]; rfl, X3.out.trans (by (repeat (first | exact Ext.refl _ | assumption | refine Ext.alloc ?_ _ | refine Ext.drewN ?_ _ | refine Ext.drew ?_)))⟩
  · have HF : Hid (eqF e f = 1) := by unfold Hid eqF; rw [hk]; rfl
    have HK := Lib.hid hk
    clear hk CD
    generalize e.length = ne at *
    generalize f.length = nf at *
    go_enter Tryz.func29, Tryz.ntmps29
    go_wp2_with fail
    refine (CP.out _ (by (repeat (first | exact Ext.refl _ | assumption | refine Ext.alloc ?_ _ | refine Ext.drewN ?_ _ | refine Ext.drew ?_)))).mono ?_
    rintro r w1 ⟨a1, c1, rfl, r1, x1⟩
    have X1 := Lib.hid (Ext.trans (show Ext w _ by (repeat (first | exact Ext.refl _ | assumption | refine Ext.alloc ?_ _ | refine Ext.drewN ?_ _ | refine Ext.drew ?_))) x1)
    have R1 := Lib.hid r1
    clear r1 x1
    go_wp2_with fail
    refine (CK.out _ _ _ (X1.out.trans (by (repeat (first | exact Ext.refl _ | assumption | refine Ext.alloc ?_ _ | refine Ext.drewN ?_ _ | refine Ext.drew ?_)))) (R1.out.ext (by (repeat (first | exact Ext.refl _ | assumption | refine Ext.alloc ?_ _ | refine Ext.drewN ?_ _ | refine Ext.drew ?_))))).mono ?_
    rw [HK.out]
    rintro r w2 ⟨rfl, x2⟩
    have X2 := Lib.hid (X1.out.trans (Ext.trans (by (repeat (first | exact Ext.refl _ | assumption | refine Ext.alloc ?_ _ | refine Ext.drewN ?_ _ | refine Ext.drew ?_))) x2))
    clear x2
    go_wp2
    go_ret
    exact ⟨by rw [HF.out]; rfl, X2.out.trans (by (repeat (first | exact Ext.refl _ | assumption | refine Ext.alloc ?_ _ | refine Ext.drewN ?_ _ | refine Ext.drew ?_)))⟩
end Go.Proofs.YtlaamecfknkmlaaGreat
