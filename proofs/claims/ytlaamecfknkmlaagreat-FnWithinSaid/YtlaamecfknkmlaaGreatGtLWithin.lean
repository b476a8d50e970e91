/- Merged texts: contracts and plain lemmas (LWithin). -/
import Derived.Test.YtlaamecfknkmlaaGreatGtDw
import Derived.Test.YtlaamecfknkmlaaGreatGtAt
import Derived.Test.YtlaamecfknkmlaaGreatGtYm
import Derived.Test.YtlaamecfknkmlaaGreatGt3
import Derived.Deep.RegionHeld3
import Derived.Lib.QuietBelow
namespace Go.Proofs.YtlaamecfknkmlaaGreat
set_option linter.unusedVariables false
open Go.RowKit Go.Kt Go.Sort
abbrev HeldW (g k : Nat) (v : Value) (w0 w : World) : Prop := w.cell? ⟨g, k, none⟩ = some v ∧ Ext w0 w
theorem HeldW.more {g k : Nat} {v : Value} {w0 w w' : World} (h : HeldW g k v w0 w) (e : Ext w w') : HeldW g k v w0 w' := ⟨e.cell' h.1 (lt_of_cell h.1), h.2.trans e⟩
set_option maxRecDepth 100000 in
set_option maxHeartbeats 8000000 in
theorem fnWithin_c (a0 : Option Addr) (c0 : Nat) (l0 : List Int) (w : World) (h0 : BytesAt w a0 l0) (hlen0 : l0.length ≤ 9223372036854775807) (hcap0 : l0.length ≤ c0) :
    Calls Tryz.prog 5 #[.slice a0 l0.length c0] w fun e w' => e = .returned (.bool true) ∧ Ext w w' := by
  by_cases hb0 : l0.length ≤ 1048576
  · go_enter Tryz.func5, Tryz.ntmps5
    go_wp2_with fail
    refine (drawWithin_c a0 c0 l0 _ h0 hb0 hcap0).mono ?_
    rintro e w1 ⟨ae, af, ne, ce, nf, cf, rfl, ⟨hfe, E, rfl, ie⟩, ⟨hff, F, rfl, if_⟩, hne, hnf, x1⟩
    have IE := Lib.hid ie
    have IF := Lib.hid if_
    have X1 := Lib.hid x1
    clear ie if_ x1 h0
    have TE : Hid (∀ w' b d (tr : List Int), Ext w1 w' → IntsAt w' b tr → tr.length ≤ 4194304 → Calls Tryz.prog 16 #[.slice ae E.length ce, .slice b tr.length d] w' fun r w'' => r = .returned (.bool (tbB E tr)) ∧ Ext w' w'') := fun w' b d tr x hi hl => traceBy_c ae b ce d E tr w' (IE.out.ext x) (by omega) hi (by omega) hl
    have TF : Hid (∀ w' b d (tr : List Int), Ext w1 w' → IntsAt w' b tr → tr.length ≤ 4194304 → Calls Tryz.prog 16 #[.slice af F.length cf, .slice b tr.length d] w' fun r w'' => r = .returned (.bool (tbB F tr)) ∧ Ext w' w'') := fun w' b d tr x hi hl => traceBy_c af b cf d F tr w' (IF.out.ext x) (by omega) hi (by omega) hl
    have CI : Hid (∀ w', Ext w1 w' → Calls Tryz.prog 27 #[.slice ae E.length ce, .slice af F.length cf] w' fun r w'' => r = .returned (.int .i64 (wiF E F)) ∧ Ext w' w'') := fun w' x => iWithin_c ae af ce cf E F w' (IE.out.ext x).1 (IF.out.ext x).1 (by omega) (by omega)
    have CS : Hid (∀ w', Ext w1 w' → Calls Tryz.prog 28 #[.slice ae E.length ce, .slice af F.length cf] w' fun r w'' => r = .returned (.int .i64 (wiF E F)) ∧ Ext w' w'') := fun w' x => sWithin_c ae af ce cf E F w' (IE.out.ext x).1 (IF.out.ext x).1 (by omega) (by omega)
    have CT : Hid (∀ w', Ext w1 w' → Calls Tryz.prog 27 #[.slice af F.length cf, .slice ae E.length ce] w' fun r w'' => r = .returned (.int .i64 (wiF F E)) ∧ Ext w' w'') := fun w' x => iWithin_c af ae cf ce F E w' (IF.out.ext x).1 (IE.out.ext x).1 (by omega) (by omega)
    have CQ : Hid (∀ w', Ext w1 w' → Calls Tryz.prog 29 #[.slice ae E.length ce, .slice af F.length cf] w' fun r w'' => r = .returned (.int .i64 (eqF E F)) ∧ Ext w' w'') := fun w' x => iEqual_c ae af ce cf E F w' (IE.out.ext x).1 (IF.out.ext x).1 (by omega) (by omega)
    have HTb : Hid (wiF E F = 1 → ∀ r, tbB E r = true → tbB F r = true) := fun h r => wiF_tb h
    have HEq : Hid (wiF E F = 1 → wiF F E = 1 → eqF E F ≠ 0) := fun h h' => wiF_both h h'
    have hrg := wiF_range E F
    clear IE IF
    generalize wiF E F = n1 at *
    generalize wiF F E = n2 at *
    generalize eqF E F = n3 at *
    generalize E.length = nE at *
    generalize F.length = nF at *
    rcases hrg with rfl | rfl | rfl
    · have HTb1 := Lib.hid (HTb.out rfl)
      have HEq1 := Lib.hid (HEq.out rfl)
      clear HTb HEq
      go_wp2_with fail
      refine (CI.out _ (by (repeat (first | exact Ext.refl _ | assumption | refine Ext.alloc ?_ _ | refine Ext.drewN ?_ _ | refine Ext.drew ?_)))).mono ?_
      rintro r w2 ⟨rfl, x2⟩
      have X2 := Lib.hid (Ext.trans (show Ext w1 _ by (repeat (first | exact Ext.refl _ | assumption | refine Ext.alloc ?_ _ | refine Ext.drewN ?_ _ | refine Ext.drew ?_))) x2)
      clear x2 CI
      go_wp2_with fail
      refine (CS.out _ (X2.out.trans (by (repeat (first | exact Ext.refl _ | assumption | refine Ext.alloc ?_ _ | refine Ext.drewN ?_ _ | refine Ext.drew ?_))))).mono ?_
      rintro r w3 ⟨rfl, x3⟩
      have X3 := Lib.hid (X2.out.trans (Ext.trans (by (repeat (first | exact Ext.refl _ | assumption | refine Ext.alloc ?_ _ | refine Ext.drewN ?_ _ | refine Ext.drew ?_))) x3))
      clear x3 CS X2
      go_wp2_with fail
      refine (allTracesI_c _).mono ?_
      rintro e w5 ⟨v5, T, rfl, o5, s5, x5⟩
      obtain ⟨a5, c5, rfl⟩ := o5.shape
      have X5 := Lib.hid (X3.out.trans (Ext.trans (by (repeat (first | exact Ext.refl _ | assumption | refine Ext.alloc ?_ _ | refine Ext.drewN ?_ _ | refine Ext.drew ?_))) x5))
      have O5 := Lib.hid o5
      have S5 := Lib.hid s5
      have hl5 := s5.1
      clear o5 s5 x5 X3
      go_wp2
      go_loopw [7] (fun i wr => Hid (∃ k : Nat, k ≤ T.length ∧ i = .int .i64 k ∧ Ext w5 wr)) (fun i _ => T.length - (intOf i).toNat)
      case atStart => exact Lib.hid ⟨0, Nat.zero_le _, rfl, by (repeat (first | exact Ext.refl _ | assumption | refine Ext.alloc ?_ _ | refine Ext.drewN ?_ _ | refine Ext.drew ?_))⟩
      case round =>
        obtain ⟨k, hk, rfl, hx⟩ := hrel.out
        have HX6 := Lib.hid hx
        clear hrel hx
        by_cases hkn : k < T.length
        · have hki : (k : Int) < (T.length : Int) := by omega
          obtain ⟨gT, rfl, -, hgT, -, hrows⟩ := O5.out.row (by omega)
          obtain ⟨ai, ci, d0, hci, hi⟩ := hrows k hkn
          have hr3 : (rowI T k).length ≤ 3 := by
            have hm : rowI T k ∈ T := by rw [rowI_getElem _ _ hkn]; exact List.getElem_mem _
            exact S5.out.2 _ hm
          have d1 := HX6.out.cell' d0 hgT
          have hgw : gT < wr.heap.size := lt_of_cell d1
          have HA := Lib.hid d1
          have TE1 : Hid (∀ w', Ext wr w' → Calls Tryz.prog 16 #[.slice ae nE ce, .slice ai (rowI T k).length ci] w' fun r w'' => r = .returned (.bool (tbB E (rowI T k))) ∧ Ext w' w'') := fun w' x =>
            TE.out w' ai ci _ (X5.out.trans (HX6.out.trans x)) (hi.1.ext (HX6.out.trans x)) (by omega)
          have TF1 : Hid (∀ w', Ext wr w' → Calls Tryz.prog 16 #[.slice af nF cf, .slice ai (rowI T k).length ci] w' fun r w'' => r = .returned (.bool (tbB F (rowI T k))) ∧ Ext w' w'') := fun w' x =>
            TF.out w' ai ci _ (X5.out.trans (HX6.out.trans x)) (hi.1.ext (HX6.out.trans x)) (by omega)
          have HL := Lib.hid (HTb1.out (rowI T k))
          clear d0 hci hi hrows TE TF HTb1 CT CQ HEq1
          generalize tbB E (rowI T k) = BE at *
          generalize tbB F (rowI T k) = BF at *
          generalize (rowI T k).length = nr at *
          cases BE
          · go_wp2_with fail
            refine (TE1.out _ (by (repeat (first | exact Ext.refl _ | assumption | refine Ext.alloc ?_ _ | refine Ext.drewN ?_ _ | refine Ext.drew ?_)))).mono ?_
            rintro r w6 ⟨rfl, x6⟩
            have X6 := Lib.hid (Ext.trans (show Ext wr _ by (repeat (first | exact Ext.refl _ | assumption | refine Ext.alloc ?_ _ | refine Ext.drewN ?_ _ | refine Ext.drew ?_))) x6)
            clear x6
            go_wp2
            go_roundw
            case rel => exact Lib.hid ⟨k + 1, by omega, by go_num, HX6.out.trans (X6.out.trans (by (repeat (first | exact Ext.refl _ | assumption | refine Ext.alloc ?_ _ | refine Ext.drewN ?_ _ | refine Ext.drew ?_))))⟩
            case measure => simp [intOf]; omega
          · obtain rfl : BF = true := HL.out rfl
            go_wp2_with fail
            refine (TE1.out _ (by (repeat (first | exact Ext.refl _ | assumption | refine Ext.alloc ?_ _ | refine Ext.drewN ?_ _ | refine Ext.drew ?_)))).mono ?_
            rintro r w6 ⟨rfl, x6⟩
            have X6 := Lib.hid (Ext.trans (show Ext wr _ by (repeat (first | exact Ext.refl _ | assumption | refine Ext.alloc ?_ _ | refine Ext.drewN ?_ _ | refine Ext.drew ?_))) x6)
            have d2 := X6.out.cell' HA.out hgw
            clear x6 d1
            go_wp2_with fail
            refine (TF1.out _ (X6.out.trans (by (repeat (first | exact Ext.refl _ | assumption | refine Ext.alloc ?_ _ | refine Ext.drewN ?_ _ | refine Ext.drew ?_))))).mono ?_
            rintro r w7 ⟨rfl, x7⟩
            have X7 := Lib.hid (X6.out.trans (Ext.trans (show Ext w6 _ by (repeat (first | exact Ext.refl _ | assumption | refine Ext.alloc ?_ _ | refine Ext.drewN ?_ _ | refine Ext.drew ?_))) x7))
            clear x7
            go_wp2
            go_roundw
            case rel => exact Lib.hid ⟨k + 1, by omega, by go_num, HX6.out.trans (X7.out.trans (by (repeat (first | exact Ext.refl _ | assumption | refine Ext.alloc ?_ _ | refine Ext.drewN ?_ _ | refine Ext.drew ?_))))⟩
            case measure => simp [intOf]; omega
        · obtain rfl : k = T.length := by omega
          have XW := Lib.hid (X5.out.trans HX6.out)
          clear TE TF HTb1 O5 S5 HX6 X5
          by_cases hn2 : n2 = 1
          · subst hn2
            have h3 : n3 ≠ 0 := HEq1.out rfl
            have h31 : (n3 != 0) = true := by simpa using h3
            clear HEq1 h3
            go_wp2_with fail
            refine (CT.out _ (XW.out.trans (by (repeat (first | exact Ext.refl _ | assumption | refine Ext.alloc ?_ _ | refine Ext.drewN ?_ _ | refine Ext.drew ?_))))).mono ?_
            rintro r w6 ⟨rfl, x6⟩
            have X6 := Lib.hid (XW.out.trans (Ext.trans (by (repeat (first | exact Ext.refl _ | assumption | refine Ext.alloc ?_ _ | refine Ext.drewN ?_ _ | refine Ext.drew ?_))) x6))
            clear x6
            go_wp2_with fail
            refine (CQ.out _ (X6.out.trans (by (repeat (first | exact Ext.refl _ | assumption | refine Ext.alloc ?_ _ | refine Ext.drewN ?_ _ | refine Ext.drew ?_))))).mono ?_
            rintro r w7 ⟨rfl, x7⟩
            have X7 := Lib.hid (X6.out.trans (Ext.trans (by (repeat (first | exact Ext.refl _ | assumption | refine Ext.alloc ?_ _ | refine Ext.drewN ?_ _ | refine Ext.drew ?_))) x7))
            clear x7
            go_wp2
            go_ret
            exact ⟨by first | rfl | (simp; done) | (rw [h31]), X1.out.trans (X7.out.trans (by (repeat (first | exact Ext.refl _ | assumption | refine Ext.alloc ?_ _ | refine Ext.drewN ?_ _ | refine Ext.drew ?_))))⟩
          · have h21 : (n2 != 1) = true := by simpa using hn2
            clear HEq1 hn2
            go_wp2_with fail
            refine (CT.out _ (XW.out.trans (by (repeat (first | exact Ext.refl _ | assumption | refine Ext.alloc ?_ _ | refine Ext.drewN ?_ _ | refine Ext.drew ?_))))).mono ?_
            rintro r w6 ⟨rfl, x6⟩
            have X6 := Lib.hid (XW.out.trans (Ext.trans (by (repeat (first | exact Ext.refl _ | assumption | refine Ext.alloc ?_ _ | refine Ext.drewN ?_ _ | refine Ext.drew ?_))) x6))
            clear x6
            go_wp2
            go_ret
            exact ⟨by first | rfl | (simp; done) | (rw [h21]), X1.out.trans (X6.out.trans (by (repeat (first | exact Ext.refl _ | assumption | refine Ext.alloc ?_ _ | refine Ext.drewN ?_ _ | refine Ext.drew ?_))))⟩
    all_goals
      clear HTb HEq CT CQ TE TF
      go_wp2_with fail
      refine (CI.out _ (by (repeat (first | exact Ext.refl _ | assumption | refine Ext.alloc ?_ _ | refine Ext.drewN ?_ _ | refine Ext.drew ?_)))).mono ?_
      rintro r w2 ⟨rfl, x2⟩
      have X2 := Lib.hid (Ext.trans (show Ext w1 _ by (repeat (first | exact Ext.refl _ | assumption | refine Ext.alloc ?_ _ | refine Ext.drewN ?_ _ | refine Ext.drew ?_))) x2)
      clear x2 CI
      go_wp2_with fail
      refine (CS.out _ (X2.out.trans (by (repeat (first | exact Ext.refl _ | assumption | refine Ext.alloc ?_ _ | refine Ext.drewN ?_ _ | refine Ext.drew ?_))))).mono ?_
      rintro r w3 ⟨rfl, x3⟩
      have X3 := Lib.hid (X1.out.trans (X2.out.trans (Ext.trans (by (repeat (first | exact Ext.refl _ | assumption | refine Ext.alloc ?_ _ | refine Ext.drewN ?_ _ | refine Ext.drew ?_))) x3)))
      clear x3 CS X2
      go_wp2_with fail
      refine (alive_c _).mono ?_
      rintro e w4 ⟨rfl, rfl⟩
      go_wp2
      go_ret
      exact ⟨rfl, X3.out.trans (by (repeat (first | exact Ext.refl _ | assumption | refine Ext.alloc ?_ _ | refine Ext.drewN ?_ _ | refine Ext.drew ?_)))⟩
  · go_enter Tryz.func5, Tryz.ntmps5
    go_wp2
    go_ret
    exact ⟨rfl, Ext.refl _⟩
end Go.Proofs.YtlaamecfknkmlaaGreat
