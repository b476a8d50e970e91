/- Merged texts: contracts and plain lemmas (LDiffer). -/
import Derived.Test.YtlaamecfknkmlaaGreatGtDf
import Derived.Test.YtlaamecfknkmlaaGreatGtAt
import Derived.Test.YtlaamecfknkmlaaGreatGtNh
import Derived.Test.YtlaamecfknkmlaaGreatGt6
import Derived.Test.YtlaamecfknkmlaaGreatGtYm
import Derived.Test.YtlaamecfknkmlaaGreatGt2
import Derived.Test.YtlaamecfknkmlaaGreatGt3
import Derived.Deep.RegionHeld3
import Derived.Lib.QuietBelow
namespace Go.Kt
set_option linter.unusedVariables false
theorem differ_least {e f t r : List Int} (h : difO e f = some t) (hl : r.length ≤ 3) (hb : r.length < t.length ∨ (r.length = t.length ∧ ltL r t = true)) : tbB e r = tbB f r := by
  cases hv : tvB r
  · unfold tbB; rw [hv]; simp
  · exact difO_least h hv hl hb
end Go.Kt
namespace Go.Proofs.YtlaamecfknkmlaaGreat
set_option linter.unusedVariables false
open Go.RowKit Go.Kt Go.Sort
abbrev HeldA (g k : Nat) (v : Value) (w0 w : World) : Prop := w.cell? ⟨g, k, none⟩ = some v ∧ Ext w0 w
theorem HeldA.more {g k : Nat} {v : Value} {w0 w w' : World} (h : HeldA g k v w0 w) (e : Ext w w') : HeldA g k v w0 w' := ⟨e.cell' h.1 (lt_of_cell h.1), h.2.trans e⟩
set_option maxHeartbeats 1000000 in
theorem before_c (a1 a2 : Option Addr) (c1 c2 : Nat) (l1 l2 : List Int) (w : World) (h1 : IntsAt w a1 l1) (h2 : IntsAt w a2 l2) (hl1 : l1.length ≤ 4611686018427387904) (hl2 : l2.length ≤ 4611686018427387904) :
    Calls Tryz.prog 39 #[.slice a1 l1.length c1, .slice a2 l2.length c2] w fun e w' => e = .returned (.bool (ltL l1 l2)) ∧ Ext w w' := by
  obtain ⟨b1, o1, p1, q1⟩ := h1
  obtain ⟨b2, o2, p2, q2⟩ := h2
  have P1 := Lib.hid p1
  have Q1 := Lib.hid q1
  have P2 := Lib.hid p2
  have Q2 := Lib.hid q2
  have HAt : Hid (∀ k, (∀ j, j < k → nth l1 j = nth l2 j) → k < l1.length → k < l2.length → nth l1 k ≠ nth l2 k → ltL l1 l2 = decide (nth l1 k < nth l2 k)) := fun k h i j m => ltL_at h i j m
  have HEnd : Hid (∀ k, (∀ j, j < k → nth l1 j = nth l2 j) → k ≤ l1.length → k ≤ l2.length → ¬ (k < l1.length ∧ k < l2.length) → ltL l1 l2 = decide (l1.length < l2.length)) := fun k h i j m => ltL_end h i j m
  clear p1 q1 p2 q2
  generalize hF : ltL l1 l2 = F at *
  clear hF
  go_enter Tryz.func39, Tryz.ntmps39
  go_wp2
  go_loopw [5] (fun i wr => Hid (∃ (k m : Nat), k ≤ l1.length ∧ k ≤ l2.length ∧ i = .int .i64 k ∧ (∀ j, j < k → nth l1 j = nth l2 j) ∧ wr = w.drewN m)) (fun i _ => l1.length - (intOf i).toNat)
  case atStart => exact Lib.hid ⟨0, 0, Nat.zero_le _, Nat.zero_le _, rfl, fun j hj => absurd hj (Nat.not_lt_zero _), rfl⟩
  case round =>
    obtain ⟨k, m, hk1, hk2, rfl, heq, rfl⟩ := hrel.out
    have HEq := Lib.hid heq
    clear hrel heq
    by_cases hb : k < l1.length ∧ k < l2.length
    · obtain ⟨hb1, hb2⟩ := hb
      obtain ⟨rfl, z1⟩ := P1.out (by omega)
      obtain ⟨rfl, z2⟩ := P2.out (by omega)
      have d1 := Q1.out k hb1
      have d2 := Q2.out k hb2
      have hi1 : (k : Int) < (l1.length : Int) := by omega
      have hi2 : (k : Int) < (l2.length : Int) := by omega
      by_cases hne : nth l1 k = nth l2 k
      · have HE2 : Hid (∀ j, j < k + 1 → nth l1 j = nth l2 j) := fun j hj => by
          by_cases e : j = k
          · subst e; exact hne
          · exact HEq.out j (by omega)
        rw [hne] at d1
        clear hne HEq
        generalize nth l2 k = x at *
        go_wp2
        go_quiet (fail)
        go_wp2
        go_roundw
        case rel => exact Lib.hid ⟨k + 1, _, by omega, by omega, by go_num, HE2.out, rfl⟩
        case measure => simp [intOf]; omega
      · have HF2 := Lib.hid (HAt.out k HEq.out hb1 hb2 hne)
        have hx : (nth l1 k != nth l2 k) = true := by simpa using hne
        clear hne HAt HEnd
        generalize nth l1 k = x at *
        generalize nth l2 k = y at *
        go_wp2
        go_quiet (fail)
        go_wp2
        go_quiet (fail)
        go_wp2
        go_ret
        exact ⟨by rw [HF2.out]; rfl, by (repeat (first | exact Ext.refl _ | assumption | refine Ext.alloc ?_ _ | refine Ext.drewN ?_ _ | refine Ext.drew ?_))⟩
    · have HF2 := Lib.hid (HEnd.out k HEq.out hk1 hk2 hb)
      have hi : ¬ ((k : Int) < (l1.length : Int) ∧ (k : Int) < (l2.length : Int)) := by omega
      have hq : (decide ((l1.length : Int) < (l2.length : Int))) = decide (l1.length < l2.length) := by
        by_cases h : l1.length < l2.length
        · rw [decide_eq_true h]; exact decide_eq_true (by omega)
        · rw [decide_eq_false h]; exact decide_eq_false (by omega)
      clear HEq HAt HEnd
      by_cases hb1 : k < l1.length
      all_goals
        go_wp2
        go_ret
        exact ⟨by rw [HF2.out]; simp, by (repeat (first | exact Ext.refl _ | assumption | refine Ext.alloc ?_ _ | refine Ext.drewN ?_ _ | refine Ext.drew ?_))⟩
set_option maxRecDepth 100000 in
set_option maxHeartbeats 8000000 in
theorem fnDiffer_c (a0 : Option Addr) (c0 : Nat) (l0 : List Int) (w : World) (h0 : BytesAt w a0 l0) (hlen0 : l0.length ≤ 9223372036854775807) (hcap0 : l0.length ≤ c0) :
    Calls Tryz.prog 7 #[.slice a0 l0.length c0] w fun e w' => e = .returned (.bool true) ∧ Ext w w' := by
  by_cases hb0 : l0.length ≤ 1048576
  · go_enter Tryz.func7, Tryz.ntmps7
    go_wp2_with fail
    refine (drawDiffer_c a0 c0 l0 _ h0 hb0 hcap0).mono ?_
    rintro e w1 ⟨ae, af, ne, ce, nf, cf, rfl, ⟨hfe, E, rfl, ie⟩, ⟨hff, F, rfl, if_⟩, hne, hnf, x1⟩
    have IE := Lib.hid ie
    have IF := Lib.hid if_
    have X1 := Lib.hid x1
    clear ie if_ x1 h0
    have TE : Hid (∀ w' b d (tr : List Int), Ext w1 w' → IntsAt w' b tr → tr.length ≤ 4194304 → Calls Tryz.prog 16 #[.slice ae E.length ce, .slice b tr.length d] w' fun r w'' => r = .returned (.bool (tbB E tr)) ∧ Ext w' w'') := fun w' b d tr x hi hl => traceBy_c ae b ce d E tr w' (IE.out.ext x) (by omega) hi (by omega) hl
    have TF : Hid (∀ w' b d (tr : List Int), Ext w1 w' → IntsAt w' b tr → tr.length ≤ 4194304 → Calls Tryz.prog 16 #[.slice af F.length cf, .slice b tr.length d] w' fun r w'' => r = .returned (.bool (tbB F tr)) ∧ Ext w' w'') := fun w' b d tr x hi hl => traceBy_c af b cf d F tr w' (IF.out.ext x) (by omega) hi (by omega) hl
    cases hO : difO E F with
    | none =>
      have CI : Hid (∀ w', Ext w1 w' → Calls Tryz.prog 17 #[.slice ae E.length ce, .slice af F.length cf] w' fun r w'' => ∃ a c, r = .returned (.tuple #[.slice a 0 c, .bool false]) ∧ IntsAt w'' a [] ∧ Ext w' w'') := fun w' x => by
        have h := iDiffer_c ae af ce cf E F w' (IE.out.ext x).1 (IF.out.ext x).1 (by omega) (by omega)
        rw [hO] at h; exact h
      have CS : Hid (∀ w', Ext w1 w' → Calls Tryz.prog 38 #[.slice ae E.length ce, .slice af F.length cf] w' fun r w'' => ∃ a c, r = .returned (.tuple #[.slice a 0 c, .bool false]) ∧ IntsAt w'' a [] ∧ Ext w' w'') := fun w' x => by
        have h := sDiffer_c ae af ce cf E F w' (IE.out.ext x).1 (IF.out.ext x).1 (by omega) (by omega)
        rw [hO] at h; exact h
      clear hO TE TF IE IF
      go_wp2_with fail
      refine (CI.out _ (by (repeat (first | exact Ext.refl _ | assumption | refine Ext.alloc ?_ _ | refine Ext.drewN ?_ _ | refine Ext.drew ?_)))).mono ?_
      rintro r w2 ⟨a2, c2, rfl, i2, x2⟩
      have X2 := Lib.hid (Ext.trans (show Ext w1 _ by (repeat (first | exact Ext.refl _ | assumption | refine Ext.alloc ?_ _ | refine Ext.drewN ?_ _ | refine Ext.drew ?_))) x2)
      have I2 := Lib.hid i2
      clear i2 x2 CI
      go_wp2_with fail
      refine (CS.out _ (X2.out.trans (by (repeat (first | exact Ext.refl _ | assumption | refine Ext.alloc ?_ _ | refine Ext.drewN ?_ _ | refine Ext.drew ?_))))).mono ?_
      rintro r w3 ⟨a3, c3, rfl, i3, x3⟩
      have I2' := Lib.hid (I2.out.ext (Ext.trans (show Ext w2 _ by (repeat (first | exact Ext.refl _ | assumption | refine Ext.alloc ?_ _ | refine Ext.drewN ?_ _ | refine Ext.drew ?_))) x3))
      have X3 := Lib.hid (X2.out.trans (Ext.trans (by (repeat (first | exact Ext.refl _ | assumption | refine Ext.alloc ?_ _ | refine Ext.drewN ?_ _ | refine Ext.drew ?_))) x3))
      have I3 := Lib.hid i3
      clear i3 x3 CS
      go_wp2_with fail
      refine (sameInts_d a2 a3 c2 c3 [] [] _ (I2'.out.ext (by (repeat (first | exact Ext.refl _ | assumption | refine Ext.alloc ?_ _ | refine Ext.drewN ?_ _ | refine Ext.drew ?_)))) (I3.out.ext (by (repeat (first | exact Ext.refl _ | assumption | refine Ext.alloc ?_ _ | refine Ext.drewN ?_ _ | refine Ext.drew ?_)))) (by simp) (by simp)).mono ?_
      rintro e w4 ⟨rfl, m, rfl⟩
      go_wp2_with fail
      refine (alive_c _).mono ?_
      rintro e w4 ⟨rfl, rfl⟩
      go_wp2
      go_ret
      exact ⟨rfl, X1.out.trans (X3.out.trans (by (repeat (first | exact Ext.refl _ | assumption | refine Ext.alloc ?_ _ | refine Ext.drewN ?_ _ | refine Ext.drew ?_))))⟩
    | some tt =>
      obtain ⟨ht1, ht41⟩ := difO_pos hO
      have HTB := Lib.hid (difO_tb hO).2
      have HDL : Hid (∀ r : List Int, r.length ≤ 3 → (r.length < tt.length ∨ (r.length = tt.length ∧ ltL r tt = true)) → tbB E r = tbB F r) := fun r h1 h2 => differ_least hO h1 h2
      have CI : Hid (∀ w', Ext w1 w' → Calls Tryz.prog 17 #[.slice ae E.length ce, .slice af F.length cf] w' fun r w'' => ∃ a c, r = .returned (.tuple #[.slice a tt.length c, .bool true]) ∧ IntsAt w'' a tt ∧ Ext w' w'') := fun w' x => by
        have h := iDiffer_c ae af ce cf E F w' (IE.out.ext x).1 (IF.out.ext x).1 (by omega) (by omega)
        rw [hO] at h; exact h
      have CS : Hid (∀ w', Ext w1 w' → Calls Tryz.prog 38 #[.slice ae E.length ce, .slice af F.length cf] w' fun r w'' => ∃ a c, r = .returned (.tuple #[.slice a tt.length c, .bool true]) ∧ IntsAt w'' a tt ∧ Ext w' w'') := fun w' x => by
        have h := sDiffer_c ae af ce cf E F w' (IE.out.ext x).1 (IF.out.ext x).1 (by omega) (by omega)
        rw [hO] at h; exact h
      have CT : Hid (∀ w', Ext w1 w' → Calls Tryz.prog 17 #[.slice af F.length cf, .slice ae E.length ce] w' fun r w'' => ∃ a c, r = .returned (.tuple #[.slice a tt.length c, .bool true]) ∧ IntsAt w'' a tt ∧ Ext w' w'') := fun w' x => by
        have h := iDiffer_c af ae cf ce F E w' (IF.out.ext x).1 (IE.out.ext x).1 (by omega) (by omega)
        rw [difO_swp, hO] at h; exact h
      clear hO IE IF
      generalize E.length = nE at *
      generalize F.length = nF at *
      go_wp2_with fail
      refine (CI.out _ (by (repeat (first | exact Ext.refl _ | assumption | refine Ext.alloc ?_ _ | refine Ext.drewN ?_ _ | refine Ext.drew ?_)))).mono ?_
      rintro r w2 ⟨a2, c2, rfl, i2, x2⟩
      have X2 := Lib.hid (Ext.trans (show Ext w1 _ by (repeat (first | exact Ext.refl _ | assumption | refine Ext.alloc ?_ _ | refine Ext.drewN ?_ _ | refine Ext.drew ?_))) x2)
      have I2 := Lib.hid i2
      clear i2 x2 CI
      go_wp2_with fail
      refine (CS.out _ (X2.out.trans (by (repeat (first | exact Ext.refl _ | assumption | refine Ext.alloc ?_ _ | refine Ext.drewN ?_ _ | refine Ext.drew ?_))))).mono ?_
      rintro r w3 ⟨a3, c3, rfl, i3, x3⟩
      replace I2 := Lib.hid (I2.out.ext (Ext.trans (show Ext w2 _ by (repeat (first | exact Ext.refl _ | assumption | refine Ext.alloc ?_ _ | refine Ext.drewN ?_ _ | refine Ext.drew ?_))) x3))
      have X3 := Lib.hid (X2.out.trans (Ext.trans (by (repeat (first | exact Ext.refl _ | assumption | refine Ext.alloc ?_ _ | refine Ext.drewN ?_ _ | refine Ext.drew ?_))) x3))
      have I3 := Lib.hid i3
      clear i3 x3 CS X2
      have htt : (tt == tt) = true := by simp
      go_wp2_with fail
      refine (sameInts_d a2 a3 c2 c3 tt tt _ (I2.out.ext (by (repeat (first | exact Ext.refl _ | assumption | refine Ext.alloc ?_ _ | refine Ext.drewN ?_ _ | refine Ext.drew ?_)))) (I3.out.ext (by (repeat (first | exact Ext.refl _ | assumption | refine Ext.alloc ?_ _ | refine Ext.drewN ?_ _ | refine Ext.drew ?_)))) (by omega) (by omega)).mono ?_
      rintro e w4 ⟨rfl, m, rfl⟩
      clear I3
      go_wp2_with fail
      refine (allTracesI_c _).mono ?_
      rintro e w5 ⟨v5, T, rfl, o5, s5, x5⟩
      obtain ⟨a5, c5, rfl⟩ := o5.shape
      have X5 := Lib.hid (Ext.trans (show Ext w3 _ by (repeat (first | exact Ext.refl _ | assumption | refine Ext.alloc ?_ _ | refine Ext.drewN ?_ _ | refine Ext.drew ?_))) x5)
      replace I2 := Lib.hid (I2.out.ext X5.out)
      have O5 := Lib.hid o5
      have S5 := Lib.hid s5
      have hl5 := s5.1
      replace X5 := Lib.hid (X3.out.trans X5.out)
      clear o5 s5 x5 X3
      go_wp2
      go_loopw [10] (fun i wr => Hid (∃ k : Nat, k ≤ T.length ∧ i = .int .i64 k ∧ Ext w5 wr)) (fun i _ => T.length - (intOf i).toNat)
      case atStart => exact Lib.hid ⟨0, Nat.zero_le _, rfl, by (repeat (first | exact Ext.refl _ | assumption | refine Ext.alloc ?_ _ | refine Ext.drewN ?_ _ | refine Ext.drew ?_))⟩
      case round =>
        obtain ⟨k, hk, rfl, hx⟩ := hrel.out
        have HX6 := Lib.hid hx
        clear hrel hx
        by_cases hkn : k < T.length
        · have hki : (k : Int) < (T.length : Int) := by omega
          obtain ⟨gT, rfl, -, hgT, -, hrows⟩ := O5.out.row (by omega)
          obtain ⟨ai, ci, d0, hci, hi⟩ := hrows k hkn
          have hr3 : (rowI T k).length ≤ 3 := by
            have hm : rowI T k ∈ T := by rw [rowI_getElem _ _ hkn]; exact List.getElem_mem _
            exact S5.out.2 _ hm
          have HA : Hid (w5.cell? ⟨gT, k, none⟩ = some (.slice ai (rowI T k).length ci)) := d0
          have TE1 : Hid (∀ w', Ext wr w' → Calls Tryz.prog 16 #[.slice ae nE ce, .slice ai (rowI T k).length ci] w' fun r w'' => r = .returned (.bool (tbB E (rowI T k))) ∧ Ext w' w'') := fun w' x =>
            TE.out w' ai ci _ (X5.out.trans (HX6.out.trans x)) (hi.1.ext (HX6.out.trans x)) (by omega)
          have TF1 : Hid (∀ w', Ext wr w' → Calls Tryz.prog 16 #[.slice af nF cf, .slice ai (rowI T k).length ci] w' fun r w'' => r = .returned (.bool (tbB F (rowI T k))) ∧ Ext w' w'') := fun w' x =>
            TF.out w' ai ci _ (X5.out.trans (HX6.out.trans x)) (hi.1.ext (HX6.out.trans x)) (by omega)
          have BF1 : Hid (∀ w', Ext wr w' → Calls Tryz.prog 39 #[.slice ai (rowI T k).length ci, .slice a2 tt.length c2] w' fun r w'' => r = .returned (.bool (ltL (rowI T k) tt)) ∧ Ext w' w'') := fun w' x =>
            before_c ai a2 ci c2 (rowI T k) tt w' (hi.1.ext (HX6.out.trans x)) (I2.out.ext (HX6.out.trans x)) (by omega) (by omega)
          have HL := Lib.hid (HDL.out (rowI T k) hr3)
          clear d0 hci hi hrows TE TF HDL CT HTB
          generalize tbB E (rowI T k) = BE at *
          generalize tbB F (rowI T k) = BF at *
          generalize ltL (rowI T k) tt = lt at *
          generalize (rowI T k).length = nr at *
          generalize tt.length = nt at *
          by_cases hA : nr < nt
          · obtain rfl := HL.out (.inl hA)
            have hA1 : (nr : Int) < (nt : Int) := by omega
            have hbb : (BE != BE) = false := by simp
            clear HL BF1 hA
            go_wp2
            have K0a : HeldA gT k (.slice ai nr ci) wr wr.drew := ⟨(HX6.out.trans (by (repeat (first | exact Ext.refl _ | assumption | refine Ext.alloc ?_ _ | refine Ext.drewN ?_ _ | refine Ext.drew ?_)))).cell' HA.out hgT, by (repeat (first | exact Ext.refl _ | assumption | refine Ext.alloc ?_ _ | refine Ext.drewN ?_ _ | refine Ext.drew ?_))⟩
            refine wp_region_held_drew (S := HeldA gT k (.slice ai nr ci) wr) (by kernel_rfl) K0a (fun hHeld => ?_)
            (refine wpAnyH_take (i := 0) (v := ?v0a) (by simp only [List.getElem?_toArray, List.getElem?_cons_zero]; rfl) (by kernel_rfl) (by kernel_rfl) (by kernel_rfl) (by exact fun _ _ _ h => h) (Or.inl ⟨by rfl, ?y0a⟩) (by assumption) ?r0a)
            case y0a =>
              intro w hSw
              obtain ⟨hs0, -⟩ := hSw
              go_simp
              all_goals (with_reducible rfl)
            (try go_frame)
            (refine wpAnyH_take (i := 1) (v := ?v1a) (by simp only [List.getElem?_toArray, List.getElem?_cons_succ, List.getElem?_cons_zero]; rfl) (by kernel_rfl) (by kernel_rfl) (by kernel_rfl) (by exact fun _ _ _ h => h) (Or.inl ⟨by rfl, ?y1a⟩) (by assumption) ?r1a)
            case y1a =>
              intro w hSw
              obtain ⟨hs0, -⟩ := hSw
              go_simp
              all_goals (with_reducible rfl)
            (try go_frame)
            (refine wpAnyH_take (i := 2) (v := ?v2a) (by simp only [List.getElem?_toArray, List.getElem?_cons_succ, List.getElem?_cons_zero]; rfl) (by kernel_rfl) (by kernel_rfl) (by kernel_rfl) (by exact fun _ _ _ h => h) (Or.inl ⟨by rfl, ?y2a⟩) (by assumption) ?r2a)
            case y2a =>
              intro w hSw
              obtain ⟨hs0, -⟩ := hSw
              go_simp
              all_goals (with_reducible rfl)
            (try go_frame)
            (refine wpAnyH_take (i := 3) (v := ?v3a) (by simp only [List.getElem?_toArray, List.getElem?_cons_succ, List.getElem?_cons_zero]; rfl) (by kernel_rfl) (by kernel_rfl) (by kernel_rfl) (by exact fun _ _ _ h => h) (Or.inl ⟨by rfl, ?y3a⟩) (by assumption) ?r3a)
            case y3a =>
              intro w hSw
              obtain ⟨hs0, -⟩ := hSw
              go_simp
              all_goals (with_reducible rfl)
            (try go_frame)
            (refine wpAnyH_take (i := 4) (v := ?v4a) (by simp only [List.getElem?_toArray, List.getElem?_cons_succ, List.getElem?_cons_zero]; rfl) (by kernel_rfl) (by kernel_rfl) (by kernel_rfl) (by exact fun _ _ _ h => h) (Or.inl ⟨by rfl, ?y4a⟩) (by assumption) ?r4a)
            case y4a =>
              intro w hSw
              obtain ⟨hs0, -⟩ := hSw
              go_simp
              all_goals (with_reducible rfl)
            (try go_frame)
            (refine wpAnyH_take (i := 5) (v := ?v5a) (by simp only [List.getElem?_toArray, List.getElem?_cons_succ, List.getElem?_cons_zero]; rfl) (by kernel_rfl) (by kernel_rfl) (by kernel_rfl) (by exact fun _ _ _ h => h) (Or.inl ⟨by rfl, ?y5a⟩) (by assumption) ?r5a)
            case y5a =>
              intro w hSw
              obtain ⟨hs0, -⟩ := hSw
              go_simp
              all_goals (with_reducible rfl)
            (try go_frame)
            (refine wpAnyH_take (i := 6) (v := ?v6a) (by simp only [List.getElem?_toArray, List.getElem?_cons_succ, List.getElem?_cons_zero]; rfl) (by kernel_rfl) (by kernel_rfl) (by kernel_rfl) (by exact fun _ _ _ h => h) (Or.inl ⟨by rfl, ?y6a⟩) (by assumption) ?r6a)
            case y6a =>
              intro w hSw
              obtain ⟨hs0, -⟩ := hSw
              go_simp
              all_goals (with_reducible rfl)
            (try go_frame)
            (refine wpAnyH_take (i := 7) (v := ?v7a) (by simp only [List.getElem?_toArray, List.getElem?_cons_succ, List.getElem?_cons_zero]; rfl) (by kernel_rfl) (by kernel_rfl) (by kernel_rfl) (by exact fun _ _ _ h => h) (Or.inl ⟨by rfl, ?y7a⟩) (by assumption) ?r7a)
            case y7a =>
              intro w hSw
              obtain ⟨hs0, -⟩ := hSw
              go_simp
              all_goals (with_reducible rfl)
            (try go_frame)
            (refine wpAnyH_take (i := 8) (v := ?v8a) (by simp only [List.getElem?_toArray, List.getElem?_cons_succ, List.getElem?_cons_zero]; rfl) (by kernel_rfl) (by kernel_rfl) (by kernel_rfl) (by exact fun _ _ _ h => h) (Or.inl ⟨by rfl, ?y8a⟩) (by assumption) ?r8a)
            case y8a =>
              intro w hSw
              obtain ⟨hs0, -⟩ := hSw
              go_simp
              all_goals (with_reducible rfl)
            (try go_frame)
            (refine wpAnyH_take (i := 9) (v := undef) (by simp only [List.getElem?_toArray, List.getElem?_cons_succ, List.getElem?_cons_zero]; rfl) (by kernel_rfl) (by kernel_rfl) (by kernel_rfl) (by exact fun _ _ _ h => h) (Or.inr ⟨by rfl, rfl⟩) (by assumption) ?_)
            (try go_frame)
            (refine wpAnyH_take (i := 10) (v := undef) (by simp only [List.getElem?_toArray, List.getElem?_cons_succ, List.getElem?_cons_zero]; rfl) (by kernel_rfl) (by kernel_rfl) (by kernel_rfl) (by exact fun _ _ _ h => h) (Or.inr ⟨by rfl, rfl⟩) (by assumption) ?_)
            (try go_frame)
            (refine wpAnyH_take (i := 11) (v := undef) (by simp only [List.getElem?_toArray, List.getElem?_cons_succ, List.getElem?_cons_zero]; rfl) (by kernel_rfl) (by kernel_rfl) (by kernel_rfl) (by exact fun _ _ _ h => h) (Or.inr ⟨by rfl, rfl⟩) (by assumption) ?_)
            (try go_frame)
            (refine wpAnyH_take (i := 12) (v := undef) (by simp only [List.getElem?_toArray, List.getElem?_cons_succ, List.getElem?_cons_zero]; rfl) (by kernel_rfl) (by kernel_rfl) (by kernel_rfl) (by exact fun _ _ _ h => h) (Or.inr ⟨by rfl, rfl⟩) (by assumption) ?_)
            (try go_frame)
            (refine wpAnyH_take (i := 13) (v := undef) (by simp only [List.getElem?_toArray, List.getElem?_cons_succ, List.getElem?_cons_zero]; rfl) (by kernel_rfl) (by kernel_rfl) (by kernel_rfl) (by exact fun _ _ _ h => h) (Or.inr ⟨by rfl, rfl⟩) (by assumption) ?_)
            (try go_frame)
            (refine wpAnyH_take (i := 14) (v := undef) (by simp only [List.getElem?_toArray, List.getElem?_cons_succ, List.getElem?_cons_zero]; rfl) (by kernel_rfl) (by kernel_rfl) (by kernel_rfl) (by exact fun _ _ _ h => h) (Or.inr ⟨by rfl, rfl⟩) (by assumption) ?_)
            (try go_frame)
            (refine wpAnyH_take (i := 15) (v := undef) (by simp only [List.getElem?_toArray, List.getElem?_cons_succ, List.getElem?_cons_zero]; rfl) (by kernel_rfl) (by kernel_rfl) (by kernel_rfl) (by exact fun _ _ _ h => h) (Or.inr ⟨by rfl, rfl⟩) (by assumption) ?_)
            (try go_frame)
            (refine wpAnyH_take (i := 16) (v := undef) (by simp only [List.getElem?_toArray, List.getElem?_cons_succ, List.getElem?_cons_zero]; rfl) (by kernel_rfl) (by kernel_rfl) (by kernel_rfl) (by exact fun _ _ _ h => h) (Or.inr ⟨by rfl, rfl⟩) (by assumption) ?_)
            (try go_frame)
            (refine wpAnyH_take (i := 17) (v := undef) (by simp only [List.getElem?_toArray, List.getElem?_cons_succ, List.getElem?_cons_zero]; rfl) (by kernel_rfl) (by kernel_rfl) (by kernel_rfl) (by exact fun _ _ _ h => h) (Or.inr ⟨by rfl, rfl⟩) (by assumption) ?_)
            (try go_frame)
            (refine wpAnyH_take (i := 18) (v := undef) (by simp only [List.getElem?_toArray, List.getElem?_cons_succ, List.getElem?_cons_zero]; rfl) (by kernel_rfl) (by kernel_rfl) (by kernel_rfl) (by exact fun _ _ _ h => h) (Or.inr ⟨by rfl, rfl⟩) (by assumption) ?_)
            (try go_frame)
            (refine wpAnyH_take (i := 19) (v := undef) (by simp only [List.getElem?_toArray, List.getElem?_cons_succ, List.getElem?_cons_zero]; rfl) (by kernel_rfl) (by kernel_rfl) (by kernel_rfl) (by exact fun _ _ _ h => h) (Or.inr ⟨by rfl, rfl⟩) (by assumption) ?_)
            (try go_frame)
            (refine wpAnyH_take (i := 20) (v := undef) (by simp only [List.getElem?_toArray, List.getElem?_cons_succ, List.getElem?_cons_zero]; rfl) (by kernel_rfl) (by kernel_rfl) (by kernel_rfl) (by exact fun _ _ _ h => h) (Or.inr ⟨by rfl, rfl⟩) (by assumption) ?_)
            (try go_frame)
            (refine wpAnyH_take (i := 21) (v := undef) (by simp only [List.getElem?_toArray, List.getElem?_cons_succ, List.getElem?_cons_zero]; rfl) (by kernel_rfl) (by kernel_rfl) (by kernel_rfl) (by exact fun _ _ _ h => h) (Or.inr ⟨by rfl, rfl⟩) (by assumption) ?_)
            (try go_frame)
            (refine wpAnyH_take (i := 22) (v := undef) (by simp only [List.getElem?_toArray, List.getElem?_cons_succ, List.getElem?_cons_zero]; rfl) (by kernel_rfl) (by kernel_rfl) (by kernel_rfl) (by exact fun _ _ _ h => h) (Or.inr ⟨by rfl, rfl⟩) (by assumption) ?_)
            (try go_frame)
            (refine wpAnyH_take (i := 23) (v := undef) (by simp only [List.getElem?_toArray, List.getElem?_cons_succ, List.getElem?_cons_zero]; rfl) (by kernel_rfl) (by kernel_rfl) (by kernel_rfl) (by exact fun _ _ _ h => h) (Or.inr ⟨by rfl, rfl⟩) (by assumption) ?_)
            (try go_frame)
            (refine wpAnyH_take (i := 24) (v := undef) (by simp only [List.getElem?_toArray, List.getElem?_cons_succ, List.getElem?_cons_zero]; rfl) (by kernel_rfl) (by kernel_rfl) (by kernel_rfl) (by exact fun _ _ _ h => h) (Or.inr ⟨by rfl, rfl⟩) (by assumption) ?_)
            (try go_frame)
            (refine wpAnyH_take (i := 25) (v := ?v25a) (by simp only [List.getElem?_toArray, List.getElem?_cons_succ, List.getElem?_cons_zero]; rfl) (by kernel_rfl) (by kernel_rfl) (by kernel_rfl) (by exact fun _ _ _ h => h) (Or.inl ⟨by rfl, ?y25a⟩) (by assumption) ?r25a)
            case y25a =>
              intro w hSw
              obtain ⟨hs0, -⟩ := hSw
              go_simp
              all_goals (with_reducible rfl)
            (try go_frame)
            (refine wpAnyH_take (i := 26) (v := ?v26a) (by simp only [List.getElem?_toArray, List.getElem?_cons_succ, List.getElem?_cons_zero]; rfl) (by kernel_rfl) (by kernel_rfl) (by kernel_rfl) (by exact fun _ _ _ h => h) (Or.inl ⟨by rfl, ?y26a⟩) (by assumption) ?r26a)
            case y26a =>
              intro w hSw
              obtain ⟨hs0, -⟩ := hSw
              go_simp
              all_goals (with_reducible rfl)
            (try go_frame)
            (refine wpAnyH_take (i := 27) (v := ?v27a) (by simp only [List.getElem?_toArray, List.getElem?_cons_succ, List.getElem?_cons_zero]; rfl) (by kernel_rfl) (by kernel_rfl) (by kernel_rfl) (by exact fun _ _ _ h => h) (Or.inl ⟨by rfl, ?y27a⟩) (by assumption) ?r27a)
            case y27a =>
              intro w hSw
              obtain ⟨hs0, -⟩ := hSw
              go_simp
              all_goals (with_reducible rfl)
            (try go_frame)
            (refine wpAnyH_take (i := 28) (v := ?v28a) (by simp only [List.getElem?_toArray, List.getElem?_cons_succ, List.getElem?_cons_zero]; rfl) (by kernel_rfl) (by kernel_rfl) (by kernel_rfl) (by exact fun _ _ _ h => h) (Or.inl ⟨by rfl, ?y28a⟩) (by assumption) ?r28a)
            case y28a =>
              intro w hSw
              obtain ⟨hs0, -⟩ := hSw
              go_simp
              all_goals (with_reducible rfl)
            (try go_frame)
            (refine wpAnyH_take (i := 29) (v := ?v29a) (by simp only [List.getElem?_toArray, List.getElem?_cons_succ, List.getElem?_cons_zero]; rfl) (by kernel_rfl) (by kernel_rfl) (by kernel_rfl) (by exact fun _ _ _ h => h) (Or.inl ⟨by rfl, ?y29a⟩) (by assumption) ?r29a)
            case y29a =>
              intro w hSw
              obtain ⟨hs0, -⟩ := hSw
              go_simp
              all_goals (with_reducible rfl)
            (try go_frame)
            (refine wpAnyH_take (i := 30) (v := ?v30a) (by simp only [List.getElem?_toArray, List.getElem?_cons_succ, List.getElem?_cons_zero]; rfl) (by kernel_rfl) (by kernel_rfl) (by kernel_rfl) (by exact fun _ _ _ h => h) (Or.inl ⟨by rfl, ?y30a⟩) (by assumption) ?r30a)
            case y30a =>
              intro w hSw
              obtain ⟨hs0, -⟩ := hSw
              go_simp
              all_goals (with_reducible rfl)
            (try go_frame)
            (refine wpAnyH_take (i := 31) (v := ?v31a) (by simp only [List.getElem?_toArray, List.getElem?_cons_succ, List.getElem?_cons_zero]; rfl) (by kernel_rfl) (by kernel_rfl) (by kernel_rfl) (by exact fun _ _ _ h => h) (Or.inl ⟨by rfl, ?y31a⟩) (by assumption) ?r31a)
            case y31a =>
              intro w hSw
              obtain ⟨hs0, -⟩ := hSw
              go_simp
              all_goals (with_reducible rfl)
            (try go_frame)
            (refine wpAnyH_take (i := 33) (v := ?v33a) (by simp only [List.getElem?_toArray, List.getElem?_cons_succ, List.getElem?_cons_zero]; rfl) (by kernel_rfl) (by kernel_rfl) (by kernel_rfl) (by exact fun _ _ _ h => h) (Or.inl ⟨by rfl, ?y33a⟩) (by assumption) ?r33a)
            case y33a =>
              intro w hSw
              obtain ⟨hs0, -⟩ := hSw
              go_simp
              all_goals (with_reducible rfl)
            (try go_frame)
            (refine wpAnyH_take (i := 34) (v := ?v34a) (by simp only [List.getElem?_toArray, List.getElem?_cons_succ, List.getElem?_cons_zero]; rfl) (by kernel_rfl) (by kernel_rfl) (by kernel_rfl) (by exact fun _ _ _ h => h) (Or.inl ⟨by rfl, ?y34a⟩) (by assumption) ?r34a)
            case y34a =>
              intro w hSw
              obtain ⟨hs0, -⟩ := hSw
              go_simp
              all_goals (with_reducible rfl)
            (try go_frame)
            (refine wpAnyH_take (i := 35) (v := ?v35a) (by simp only [List.getElem?_toArray, List.getElem?_cons_succ, List.getElem?_cons_zero]; rfl) (by kernel_rfl) (by kernel_rfl) (by kernel_rfl) (by exact fun _ _ _ h => h) (Or.inl ⟨by rfl, ?y35a⟩) (by assumption) ?r35a)
            case y35a =>
              intro w hSw
              obtain ⟨hs0, -⟩ := hSw
              go_simp
              all_goals (with_reducible rfl)
            (try go_frame)
            (refine wpAnyH_take (i := 36) (v := ?v36a) (by simp only [List.getElem?_toArray, List.getElem?_cons_succ, List.getElem?_cons_zero]; rfl) (by kernel_rfl) (by kernel_rfl) (by kernel_rfl) (by exact fun _ _ _ h => h) (Or.inl ⟨by rfl, ?y36a⟩) (by assumption) ?r36a)
            case y36a =>
              intro w hSw
              obtain ⟨hs0, -⟩ := hSw
              go_simp
              all_goals (with_reducible rfl)
            (try go_frame)
            (refine wpAnyH_take (i := 37) (v := ?v37a) (by simp only [List.getElem?_toArray, List.getElem?_cons_succ, List.getElem?_cons_zero]; rfl) (by kernel_rfl) (by kernel_rfl) (by kernel_rfl) (by exact fun _ _ _ h => h) (Or.inl ⟨by rfl, ?y37a⟩) (by assumption) ?r37a)
            case y37a =>
              intro w hSw
              obtain ⟨hs0, -⟩ := hSw
              go_simp
              all_goals (with_reducible rfl)
            (try go_frame)
            refine wpAnyH_ready (rs := [32]) (by kernel_rfl) (by simp) ?_
            refine AllReadyH.cons (by simp only [List.getElem?_toArray, List.getElem?_cons_succ, List.getElem?_cons_zero]; rfl) (fun K hK => ?_) AllReadyH.nil
            go_simp
            (go_at_call 16; with_reducible refine (TE1.out _ (And.right (show HeldA gT k (.slice ai nr ci) wr _ by assumption))).mono ?_; rintro e wk ⟨rfl, yk⟩)
            refine hK.out _ _ ?_ (fun hHeld => ?_)
            · exact HeldA.more (by assumption) yk
            clear hK K
            (try go_frame)
            refine wpAnyH_ready (rs := [38]) (by kernel_rfl) (by simp) ?_
            refine AllReadyH.cons (by simp only [List.getElem?_toArray, List.getElem?_cons_succ, List.getElem?_cons_zero]; rfl) (fun K hK => ?_) AllReadyH.nil
            go_simp
            (go_at_call 16; with_reducible refine (TF1.out _ (And.right (show HeldA gT k (.slice ai nr ci) wr _ by assumption))).mono ?_; rintro e wk ⟨rfl, yk⟩)
            refine hK.out _ _ ?_ (fun hHeld => ?_)
            · exact HeldA.more (by assumption) yk
            clear hK K
            (try go_frame)
            (refine wpAnyH_take (i := 39) (v := ?v39a) (by simp only [List.getElem?_toArray, List.getElem?_cons_succ, List.getElem?_cons_zero]; rfl) (by kernel_rfl) (by kernel_rfl) (by kernel_rfl) (by exact fun _ _ _ h => h) (Or.inl ⟨by rfl, ?y39a⟩) (by assumption) ?r39a)
            case y39a =>
              intro w hSw
              obtain ⟨hs0, -⟩ := hSw
              go_simp
              all_goals (with_reducible rfl)
            (try go_frame)
            (refine wpAnyH_take (i := 40) (v := ?v40a) (by simp only [List.getElem?_toArray, List.getElem?_cons_succ, List.getElem?_cons_zero]; rfl) (by kernel_rfl) (by kernel_rfl) (by kernel_rfl) (by exact fun _ _ _ h => h) (Or.inl ⟨by rfl, ?y40a⟩) (by assumption) ?r40a)
            case y40a =>
              intro w hSw
              obtain ⟨hs0, -⟩ := hSw
              go_simp
              all_goals (with_reducible rfl)
            (try go_frame)
            refine wpAnyH_done (by kernel_rfl) ?_ _
            have XR := Lib.hid (And.right (show HeldA gT k (.slice ai nr ci) wr _ by assumption))
            go_wp2
            go_roundw
            case rel => exact Lib.hid ⟨k + 1, by omega, by go_num, HX6.out.trans XR.out⟩
            case measure => simp [intOf]; omega
          · by_cases hB : nr = nt
            · subst hB
              have hA1 : ¬ ((nr : Int) < (nr : Int)) := by omega
              cases lt
              · clear HL TE1 TF1 hA
                go_wp2
                have K0c : HeldA gT k (.slice ai nr ci) wr wr.drew := ⟨(HX6.out.trans (by (repeat (first | exact Ext.refl _ | assumption | refine Ext.alloc ?_ _ | refine Ext.drewN ?_ _ | refine Ext.drew ?_)))).cell' HA.out hgT, by (repeat (first | exact Ext.refl _ | assumption | refine Ext.alloc ?_ _ | refine Ext.drewN ?_ _ | refine Ext.drew ?_))⟩
                refine wp_region_held_drew (S := HeldA gT k (.slice ai nr ci) wr) (by kernel_rfl) K0c (fun hHeld => ?_)
                (refine wpAnyH_take (i := 0) (v := ?v0c) (by simp only [List.getElem?_toArray, List.getElem?_cons_zero]; rfl) (by kernel_rfl) (by kernel_rfl) (by kernel_rfl) (by exact fun _ _ _ h => h) (Or.inl ⟨by rfl, ?y0c⟩) (by assumption) ?r0c)
                case y0c =>
                  intro w hSw
                  obtain ⟨hs0, -⟩ := hSw
                  go_simp
                  all_goals (with_reducible rfl)
                (try go_frame)
                (refine wpAnyH_take (i := 1) (v := ?v1c) (by simp only [List.getElem?_toArray, List.getElem?_cons_succ, List.getElem?_cons_zero]; rfl) (by kernel_rfl) (by kernel_rfl) (by kernel_rfl) (by exact fun _ _ _ h => h) (Or.inl ⟨by rfl, ?y1c⟩) (by assumption) ?r1c)
                case y1c =>
                  intro w hSw
                  obtain ⟨hs0, -⟩ := hSw
                  go_simp
                  all_goals (with_reducible rfl)
                (try go_frame)
                (refine wpAnyH_take (i := 2) (v := ?v2c) (by simp only [List.getElem?_toArray, List.getElem?_cons_succ, List.getElem?_cons_zero]; rfl) (by kernel_rfl) (by kernel_rfl) (by kernel_rfl) (by exact fun _ _ _ h => h) (Or.inl ⟨by rfl, ?y2c⟩) (by assumption) ?r2c)
                case y2c =>
                  intro w hSw
                  obtain ⟨hs0, -⟩ := hSw
                  go_simp
                  all_goals (with_reducible rfl)
                (try go_frame)
                (refine wpAnyH_take (i := 3) (v := ?v3c) (by simp only [List.getElem?_toArray, List.getElem?_cons_succ, List.getElem?_cons_zero]; rfl) (by kernel_rfl) (by kernel_rfl) (by kernel_rfl) (by exact fun _ _ _ h => h) (Or.inl ⟨by rfl, ?y3c⟩) (by assumption) ?r3c)
                case y3c =>
                  intro w hSw
                  obtain ⟨hs0, -⟩ := hSw
                  go_simp
                  all_goals (with_reducible rfl)
                (try go_frame)
                (refine wpAnyH_take (i := 4) (v := ?v4c) (by simp only [List.getElem?_toArray, List.getElem?_cons_succ, List.getElem?_cons_zero]; rfl) (by kernel_rfl) (by kernel_rfl) (by kernel_rfl) (by exact fun _ _ _ h => h) (Or.inl ⟨by rfl, ?y4c⟩) (by assumption) ?r4c)
                case y4c =>
                  intro w hSw
                  obtain ⟨hs0, -⟩ := hSw
                  go_simp
                  all_goals (with_reducible rfl)
                (try go_frame)
                (refine wpAnyH_take (i := 5) (v := ?v5c) (by simp only [List.getElem?_toArray, List.getElem?_cons_succ, List.getElem?_cons_zero]; rfl) (by kernel_rfl) (by kernel_rfl) (by kernel_rfl) (by exact fun _ _ _ h => h) (Or.inl ⟨by rfl, ?y5c⟩) (by assumption) ?r5c)
                case y5c =>
                  intro w hSw
                  obtain ⟨hs0, -⟩ := hSw
                  go_simp
                  all_goals (with_reducible rfl)
                (try go_frame)
                (refine wpAnyH_take (i := 6) (v := ?v6c) (by simp only [List.getElem?_toArray, List.getElem?_cons_succ, List.getElem?_cons_zero]; rfl) (by kernel_rfl) (by kernel_rfl) (by kernel_rfl) (by exact fun _ _ _ h => h) (Or.inl ⟨by rfl, ?y6c⟩) (by assumption) ?r6c)
                case y6c =>
                  intro w hSw
                  obtain ⟨hs0, -⟩ := hSw
                  go_simp
                  all_goals (with_reducible rfl)
                (try go_frame)
                (refine wpAnyH_take (i := 7) (v := ?v7c) (by simp only [List.getElem?_toArray, List.getElem?_cons_succ, List.getElem?_cons_zero]; rfl) (by kernel_rfl) (by kernel_rfl) (by kernel_rfl) (by exact fun _ _ _ h => h) (Or.inl ⟨by rfl, ?y7c⟩) (by assumption) ?r7c)
                case y7c =>
                  intro w hSw
                  obtain ⟨hs0, -⟩ := hSw
                  go_simp
                  all_goals (with_reducible rfl)
                (try go_frame)
                (refine wpAnyH_take (i := 8) (v := ?v8c) (by simp only [List.getElem?_toArray, List.getElem?_cons_succ, List.getElem?_cons_zero]; rfl) (by kernel_rfl) (by kernel_rfl) (by kernel_rfl) (by exact fun _ _ _ h => h) (Or.inl ⟨by rfl, ?y8c⟩) (by assumption) ?r8c)
                case y8c =>
                  intro w hSw
                  obtain ⟨hs0, -⟩ := hSw
                  go_simp
                  all_goals (with_reducible rfl)
                (try go_frame)
                (refine wpAnyH_take (i := 9) (v := ?v9c) (by simp only [List.getElem?_toArray, List.getElem?_cons_succ, List.getElem?_cons_zero]; rfl) (by kernel_rfl) (by kernel_rfl) (by kernel_rfl) (by exact fun _ _ _ h => h) (Or.inl ⟨by rfl, ?y9c⟩) (by assumption) ?r9c)
                case y9c =>
                  intro w hSw
                  obtain ⟨hs0, -⟩ := hSw
                  go_simp
                  all_goals (with_reducible rfl)
                (try go_frame)
                (refine wpAnyH_take (i := 10) (v := ?v10c) (by simp only [List.getElem?_toArray, List.getElem?_cons_succ, List.getElem?_cons_zero]; rfl) (by kernel_rfl) (by kernel_rfl) (by kernel_rfl) (by exact fun _ _ _ h => h) (Or.inl ⟨by rfl, ?y10c⟩) (by assumption) ?r10c)
                case y10c =>
                  intro w hSw
                  obtain ⟨hs0, -⟩ := hSw
                  go_simp
                  all_goals (with_reducible rfl)
                (try go_frame)
                (refine wpAnyH_take (i := 11) (v := ?v11c) (by simp only [List.getElem?_toArray, List.getElem?_cons_succ, List.getElem?_cons_zero]; rfl) (by kernel_rfl) (by kernel_rfl) (by kernel_rfl) (by exact fun _ _ _ h => h) (Or.inl ⟨by rfl, ?y11c⟩) (by assumption) ?r11c)
                case y11c =>
                  intro w hSw
                  obtain ⟨hs0, -⟩ := hSw
                  go_simp
                  all_goals (with_reducible rfl)
                (try go_frame)
                (refine wpAnyH_take (i := 12) (v := ?v12c) (by simp only [List.getElem?_toArray, List.getElem?_cons_succ, List.getElem?_cons_zero]; rfl) (by kernel_rfl) (by kernel_rfl) (by kernel_rfl) (by exact fun _ _ _ h => h) (Or.inl ⟨by rfl, ?y12c⟩) (by assumption) ?r12c)
                case y12c =>
                  intro w hSw
                  obtain ⟨hs0, -⟩ := hSw
                  go_simp
                  all_goals (with_reducible rfl)
                (try go_frame)
                (refine wpAnyH_take (i := 13) (v := ?v13c) (by simp only [List.getElem?_toArray, List.getElem?_cons_succ, List.getElem?_cons_zero]; rfl) (by kernel_rfl) (by kernel_rfl) (by kernel_rfl) (by exact fun _ _ _ h => h) (Or.inl ⟨by rfl, ?y13c⟩) (by assumption) ?r13c)
                case y13c =>
                  intro w hSw
                  obtain ⟨hs0, -⟩ := hSw
                  go_simp
                  all_goals (with_reducible rfl)
                (try go_frame)
                (refine wpAnyH_take (i := 14) (v := ?v14c) (by simp only [List.getElem?_toArray, List.getElem?_cons_succ, List.getElem?_cons_zero]; rfl) (by kernel_rfl) (by kernel_rfl) (by kernel_rfl) (by exact fun _ _ _ h => h) (Or.inl ⟨by rfl, ?y14c⟩) (by assumption) ?r14c)
                case y14c =>
                  intro w hSw
                  obtain ⟨hs0, -⟩ := hSw
                  go_simp
                  all_goals (with_reducible rfl)
                (try go_frame)
                (refine wpAnyH_take (i := 15) (v := ?v15c) (by simp only [List.getElem?_toArray, List.getElem?_cons_succ, List.getElem?_cons_zero]; rfl) (by kernel_rfl) (by kernel_rfl) (by kernel_rfl) (by exact fun _ _ _ h => h) (Or.inl ⟨by rfl, ?y15c⟩) (by assumption) ?r15c)
                case y15c =>
                  intro w hSw
                  obtain ⟨hs0, -⟩ := hSw
                  go_simp
                  all_goals (with_reducible rfl)
                (try go_frame)
                (refine wpAnyH_take (i := 16) (v := ?v16c) (by simp only [List.getElem?_toArray, List.getElem?_cons_succ, List.getElem?_cons_zero]; rfl) (by kernel_rfl) (by kernel_rfl) (by kernel_rfl) (by exact fun _ _ _ h => h) (Or.inl ⟨by rfl, ?y16c⟩) (by assumption) ?r16c)
                case y16c =>
                  intro w hSw
                  obtain ⟨hs0, -⟩ := hSw
                  go_simp
                  all_goals (with_reducible rfl)
                (try go_frame)
                (refine wpAnyH_take (i := 17) (v := ?v17c) (by simp only [List.getElem?_toArray, List.getElem?_cons_succ, List.getElem?_cons_zero]; rfl) (by kernel_rfl) (by kernel_rfl) (by kernel_rfl) (by exact fun _ _ _ h => h) (Or.inl ⟨by rfl, ?y17c⟩) (by assumption) ?r17c)
                case y17c =>
                  intro w hSw
                  obtain ⟨hs0, -⟩ := hSw
                  go_simp
                  all_goals (with_reducible rfl)
                (try go_frame)
                (refine wpAnyH_take (i := 18) (v := ?v18c) (by simp only [List.getElem?_toArray, List.getElem?_cons_succ, List.getElem?_cons_zero]; rfl) (by kernel_rfl) (by kernel_rfl) (by kernel_rfl) (by exact fun _ _ _ h => h) (Or.inl ⟨by rfl, ?y18c⟩) (by assumption) ?r18c)
                case y18c =>
                  intro w hSw
                  obtain ⟨hs0, -⟩ := hSw
                  go_simp
                  all_goals (with_reducible rfl)
                (try go_frame)
                (refine wpAnyH_take (i := 19) (v := ?v19c) (by simp only [List.getElem?_toArray, List.getElem?_cons_succ, List.getElem?_cons_zero]; rfl) (by kernel_rfl) (by kernel_rfl) (by kernel_rfl) (by exact fun _ _ _ h => h) (Or.inl ⟨by rfl, ?y19c⟩) (by assumption) ?r19c)
                case y19c =>
                  intro w hSw
                  obtain ⟨hs0, -⟩ := hSw
                  go_simp
                  all_goals (with_reducible rfl)
                (try go_frame)
                (refine wpAnyH_take (i := 20) (v := ?v20c) (by simp only [List.getElem?_toArray, List.getElem?_cons_succ, List.getElem?_cons_zero]; rfl) (by kernel_rfl) (by kernel_rfl) (by kernel_rfl) (by exact fun _ _ _ h => h) (Or.inl ⟨by rfl, ?y20c⟩) (by assumption) ?r20c)
                case y20c =>
                  intro w hSw
                  obtain ⟨hs0, -⟩ := hSw
                  go_simp
                  all_goals (with_reducible rfl)
                (try go_frame)
                (refine wpAnyH_take (i := 21) (v := ?v21c) (by simp only [List.getElem?_toArray, List.getElem?_cons_succ, List.getElem?_cons_zero]; rfl) (by kernel_rfl) (by kernel_rfl) (by kernel_rfl) (by exact fun _ _ _ h => h) (Or.inl ⟨by rfl, ?y21c⟩) (by assumption) ?r21c)
                case y21c =>
                  intro w hSw
                  obtain ⟨hs0, -⟩ := hSw
                  go_simp
                  all_goals (with_reducible rfl)
                (try go_frame)
                (refine wpAnyH_take (i := 22) (v := ?v22c) (by simp only [List.getElem?_toArray, List.getElem?_cons_succ, List.getElem?_cons_zero]; rfl) (by kernel_rfl) (by kernel_rfl) (by kernel_rfl) (by exact fun _ _ _ h => h) (Or.inl ⟨by rfl, ?y22c⟩) (by assumption) ?r22c)
                case y22c =>
                  intro w hSw
                  obtain ⟨hs0, -⟩ := hSw
                  go_simp
                  all_goals (with_reducible rfl)
                (try go_frame)
                refine wpAnyH_ready (rs := [23]) (by kernel_rfl) (by simp) ?_
                refine AllReadyH.cons (by simp only [List.getElem?_toArray, List.getElem?_cons_succ, List.getElem?_cons_zero]; rfl) (fun K hK => ?_) AllReadyH.nil
                go_simp
                (go_at_call 39; with_reducible refine (BF1.out _ (And.right (show HeldA gT k (.slice ai nr ci) wr _ by assumption))).mono ?_; rintro e wk ⟨rfl, yk⟩)
                refine hK.out _ _ ?_ (fun hHeld => ?_)
                · exact HeldA.more (by assumption) yk
                clear hK K
                (try go_frame)
                (refine wpAnyH_take (i := 24) (v := ?v24c) (by simp only [List.getElem?_toArray, List.getElem?_cons_succ, List.getElem?_cons_zero]; rfl) (by kernel_rfl) (by kernel_rfl) (by kernel_rfl) (by exact fun _ _ _ h => h) (Or.inl ⟨by rfl, ?y24c⟩) (by assumption) ?r24c)
                case y24c =>
                  intro w hSw
                  obtain ⟨hs0, -⟩ := hSw
                  go_simp
                  all_goals (with_reducible rfl)
                (try go_frame)
                (refine wpAnyH_take (i := 25) (v := ?v25c) (by simp only [List.getElem?_toArray, List.getElem?_cons_succ, List.getElem?_cons_zero]; rfl) (by kernel_rfl) (by kernel_rfl) (by kernel_rfl) (by exact fun _ _ _ h => h) (Or.inl ⟨by rfl, ?y25c⟩) (by assumption) ?r25c)
                case y25c =>
                  intro w hSw
                  obtain ⟨hs0, -⟩ := hSw
                  go_simp
                  all_goals (with_reducible rfl)
                (try go_frame)
                (refine wpAnyH_take (i := 26) (v := ?v26c) (by simp only [List.getElem?_toArray, List.getElem?_cons_succ, List.getElem?_cons_zero]; rfl) (by kernel_rfl) (by kernel_rfl) (by kernel_rfl) (by exact fun _ _ _ h => h) (Or.inl ⟨by rfl, ?y26c⟩) (by assumption) ?r26c)
                case y26c =>
                  intro w hSw
                  obtain ⟨hs0, -⟩ := hSw
                  go_simp
                  all_goals (with_reducible rfl)
                (try go_frame)
                (refine wpAnyH_take (i := 27) (v := undef) (by simp only [List.getElem?_toArray, List.getElem?_cons_succ, List.getElem?_cons_zero]; rfl) (by kernel_rfl) (by kernel_rfl) (by kernel_rfl) (by exact fun _ _ _ h => h) (Or.inr ⟨by rfl, rfl⟩) (by assumption) ?_)
                (try go_frame)
                (refine wpAnyH_take (i := 28) (v := undef) (by simp only [List.getElem?_toArray, List.getElem?_cons_succ, List.getElem?_cons_zero]; rfl) (by kernel_rfl) (by kernel_rfl) (by kernel_rfl) (by exact fun _ _ _ h => h) (Or.inr ⟨by rfl, rfl⟩) (by assumption) ?_)
                (try go_frame)
                (refine wpAnyH_take (i := 29) (v := undef) (by simp only [List.getElem?_toArray, List.getElem?_cons_succ, List.getElem?_cons_zero]; rfl) (by kernel_rfl) (by kernel_rfl) (by kernel_rfl) (by exact fun _ _ _ h => h) (Or.inr ⟨by rfl, rfl⟩) (by assumption) ?_)
                (try go_frame)
                (refine wpAnyH_take (i := 30) (v := undef) (by simp only [List.getElem?_toArray, List.getElem?_cons_succ, List.getElem?_cons_zero]; rfl) (by kernel_rfl) (by kernel_rfl) (by kernel_rfl) (by exact fun _ _ _ h => h) (Or.inr ⟨by rfl, rfl⟩) (by assumption) ?_)
                (try go_frame)
                (refine wpAnyH_take (i := 31) (v := undef) (by simp only [List.getElem?_toArray, List.getElem?_cons_succ, List.getElem?_cons_zero]; rfl) (by kernel_rfl) (by kernel_rfl) (by kernel_rfl) (by exact fun _ _ _ h => h) (Or.inr ⟨by rfl, rfl⟩) (by assumption) ?_)
                (try go_frame)
                (refine wpAnyH_take (i := 32) (v := undef) (by simp only [List.getElem?_toArray, List.getElem?_cons_succ, List.getElem?_cons_zero]; rfl) (by kernel_rfl) (by kernel_rfl) (by kernel_rfl) (by exact fun _ _ _ h => h) (Or.inr ⟨by rfl, rfl⟩) (by assumption) ?_)
                (try go_frame)
                (refine wpAnyH_take (i := 33) (v := undef) (by simp only [List.getElem?_toArray, List.getElem?_cons_succ, List.getElem?_cons_zero]; rfl) (by kernel_rfl) (by kernel_rfl) (by kernel_rfl) (by exact fun _ _ _ h => h) (Or.inr ⟨by rfl, rfl⟩) (by assumption) ?_)
                (try go_frame)
                (refine wpAnyH_take (i := 34) (v := undef) (by simp only [List.getElem?_toArray, List.getElem?_cons_succ, List.getElem?_cons_zero]; rfl) (by kernel_rfl) (by kernel_rfl) (by kernel_rfl) (by exact fun _ _ _ h => h) (Or.inr ⟨by rfl, rfl⟩) (by assumption) ?_)
                (try go_frame)
                (refine wpAnyH_take (i := 35) (v := undef) (by simp only [List.getElem?_toArray, List.getElem?_cons_succ, List.getElem?_cons_zero]; rfl) (by kernel_rfl) (by kernel_rfl) (by kernel_rfl) (by exact fun _ _ _ h => h) (Or.inr ⟨by rfl, rfl⟩) (by assumption) ?_)
                (try go_frame)
                (refine wpAnyH_take (i := 36) (v := undef) (by simp only [List.getElem?_toArray, List.getElem?_cons_succ, List.getElem?_cons_zero]; rfl) (by kernel_rfl) (by kernel_rfl) (by kernel_rfl) (by exact fun _ _ _ h => h) (Or.inr ⟨by rfl, rfl⟩) (by assumption) ?_)
                (try go_frame)
                (refine wpAnyH_take (i := 37) (v := undef) (by simp only [List.getElem?_toArray, List.getElem?_cons_succ, List.getElem?_cons_zero]; rfl) (by kernel_rfl) (by kernel_rfl) (by kernel_rfl) (by exact fun _ _ _ h => h) (Or.inr ⟨by rfl, rfl⟩) (by assumption) ?_)
                (try go_frame)
                (refine wpAnyH_take (i := 38) (v := undef) (by simp only [List.getElem?_toArray, List.getElem?_cons_succ, List.getElem?_cons_zero]; rfl) (by kernel_rfl) (by kernel_rfl) (by kernel_rfl) (by exact fun _ _ _ h => h) (Or.inr ⟨by rfl, rfl⟩) (by assumption) ?_)
                (try go_frame)
                (refine wpAnyH_take (i := 39) (v := undef) (by simp only [List.getElem?_toArray, List.getElem?_cons_succ, List.getElem?_cons_zero]; rfl) (by kernel_rfl) (by kernel_rfl) (by kernel_rfl) (by exact fun _ _ _ h => h) (Or.inr ⟨by rfl, rfl⟩) (by assumption) ?_)
                (try go_frame)
                (refine wpAnyH_take (i := 40) (v := ?v40c) (by simp only [List.getElem?_toArray, List.getElem?_cons_succ, List.getElem?_cons_zero]; rfl) (by kernel_rfl) (by kernel_rfl) (by kernel_rfl) (by exact fun _ _ _ h => h) (Or.inl ⟨by rfl, ?y40c⟩) (by assumption) ?r40c)
                case y40c =>
                  intro w hSw
                  obtain ⟨hs0, -⟩ := hSw
                  go_simp
                  all_goals (with_reducible rfl)
                (try go_frame)
                refine wpAnyH_done (by kernel_rfl) ?_ _
                have XR := Lib.hid (And.right (show HeldA gT k (.slice ai nr ci) wr _ by assumption))
                go_wp2
                go_roundw
                case rel => exact Lib.hid ⟨k + 1, by omega, by go_num, HX6.out.trans XR.out⟩
                case measure => simp [intOf]; omega
              · obtain rfl := HL.out (.inr ⟨rfl, rfl⟩)
                have hbb : (BE != BE) = false := by simp
                clear HL hA
                go_wp2
                have K0d : HeldA gT k (.slice ai nr ci) wr wr.drew := ⟨(HX6.out.trans (by (repeat (first | exact Ext.refl _ | assumption | refine Ext.alloc ?_ _ | refine Ext.drewN ?_ _ | refine Ext.drew ?_)))).cell' HA.out hgT, by (repeat (first | exact Ext.refl _ | assumption | refine Ext.alloc ?_ _ | refine Ext.drewN ?_ _ | refine Ext.drew ?_))⟩
                refine wp_region_held_drew (S := HeldA gT k (.slice ai nr ci) wr) (by kernel_rfl) K0d (fun hHeld => ?_)
                (refine wpAnyH_take (i := 0) (v := ?v0d) (by simp only [List.getElem?_toArray, List.getElem?_cons_zero]; rfl) (by kernel_rfl) (by kernel_rfl) (by kernel_rfl) (by exact fun _ _ _ h => h) (Or.inl ⟨by rfl, ?y0d⟩) (by assumption) ?r0d)
                case y0d =>
                  intro w hSw
                  obtain ⟨hs0, -⟩ := hSw
                  go_simp
                  all_goals (with_reducible rfl)
                (try go_frame)
                (refine wpAnyH_take (i := 1) (v := ?v1d) (by simp only [List.getElem?_toArray, List.getElem?_cons_succ, List.getElem?_cons_zero]; rfl) (by kernel_rfl) (by kernel_rfl) (by kernel_rfl) (by exact fun _ _ _ h => h) (Or.inl ⟨by rfl, ?y1d⟩) (by assumption) ?r1d)
                case y1d =>
                  intro w hSw
                  obtain ⟨hs0, -⟩ := hSw
                  go_simp
                  all_goals (with_reducible rfl)
                (try go_frame)
                (refine wpAnyH_take (i := 2) (v := ?v2d) (by simp only [List.getElem?_toArray, List.getElem?_cons_succ, List.getElem?_cons_zero]; rfl) (by kernel_rfl) (by kernel_rfl) (by kernel_rfl) (by exact fun _ _ _ h => h) (Or.inl ⟨by rfl, ?y2d⟩) (by assumption) ?r2d)
                case y2d =>
                  intro w hSw
                  obtain ⟨hs0, -⟩ := hSw
                  go_simp
                  all_goals (with_reducible rfl)
                (try go_frame)
                (refine wpAnyH_take (i := 3) (v := ?v3d) (by simp only [List.getElem?_toArray, List.getElem?_cons_succ, List.getElem?_cons_zero]; rfl) (by kernel_rfl) (by kernel_rfl) (by kernel_rfl) (by exact fun _ _ _ h => h) (Or.inl ⟨by rfl, ?y3d⟩) (by assumption) ?r3d)
                case y3d =>
                  intro w hSw
                  obtain ⟨hs0, -⟩ := hSw
                  go_simp
                  all_goals (with_reducible rfl)
                (try go_frame)
                (refine wpAnyH_take (i := 4) (v := ?v4d) (by simp only [List.getElem?_toArray, List.getElem?_cons_succ, List.getElem?_cons_zero]; rfl) (by kernel_rfl) (by kernel_rfl) (by kernel_rfl) (by exact fun _ _ _ h => h) (Or.inl ⟨by rfl, ?y4d⟩) (by assumption) ?r4d)
                case y4d =>
                  intro w hSw
                  obtain ⟨hs0, -⟩ := hSw
                  go_simp
                  all_goals (with_reducible rfl)
                (try go_frame)
                (refine wpAnyH_take (i := 5) (v := ?v5d) (by simp only [List.getElem?_toArray, List.getElem?_cons_succ, List.getElem?_cons_zero]; rfl) (by kernel_rfl) (by kernel_rfl) (by kernel_rfl) (by exact fun _ _ _ h => h) (Or.inl ⟨by rfl, ?y5d⟩) (by assumption) ?r5d)
                case y5d =>
                  intro w hSw
                  obtain ⟨hs0, -⟩ := hSw
                  go_simp
                  all_goals (with_reducible rfl)
                (try go_frame)
                (refine wpAnyH_take (i := 6) (v := ?v6d) (by simp only [List.getElem?_toArray, List.getElem?_cons_succ, List.getElem?_cons_zero]; rfl) (by kernel_rfl) (by kernel_rfl) (by kernel_rfl) (by exact fun _ _ _ h => h) (Or.inl ⟨by rfl, ?y6d⟩) (by assumption) ?r6d)
                case y6d =>
                  intro w hSw
                  obtain ⟨hs0, -⟩ := hSw
                  go_simp
                  all_goals (with_reducible rfl)
                (try go_frame)
                (refine wpAnyH_take (i := 7) (v := ?v7d) (by simp only [List.getElem?_toArray, List.getElem?_cons_succ, List.getElem?_cons_zero]; rfl) (by kernel_rfl) (by kernel_rfl) (by kernel_rfl) (by exact fun _ _ _ h => h) (Or.inl ⟨by rfl, ?y7d⟩) (by assumption) ?r7d)
                case y7d =>
                  intro w hSw
                  obtain ⟨hs0, -⟩ := hSw
                  go_simp
                  all_goals (with_reducible rfl)
                (try go_frame)
                (refine wpAnyH_take (i := 8) (v := ?v8d) (by simp only [List.getElem?_toArray, List.getElem?_cons_succ, List.getElem?_cons_zero]; rfl) (by kernel_rfl) (by kernel_rfl) (by kernel_rfl) (by exact fun _ _ _ h => h) (Or.inl ⟨by rfl, ?y8d⟩) (by assumption) ?r8d)
                case y8d =>
                  intro w hSw
                  obtain ⟨hs0, -⟩ := hSw
                  go_simp
                  all_goals (with_reducible rfl)
                (try go_frame)
                (refine wpAnyH_take (i := 9) (v := ?v9d) (by simp only [List.getElem?_toArray, List.getElem?_cons_succ, List.getElem?_cons_zero]; rfl) (by kernel_rfl) (by kernel_rfl) (by kernel_rfl) (by exact fun _ _ _ h => h) (Or.inl ⟨by rfl, ?y9d⟩) (by assumption) ?r9d)
                case y9d =>
                  intro w hSw
                  obtain ⟨hs0, -⟩ := hSw
                  go_simp
                  all_goals (with_reducible rfl)
                (try go_frame)
                (refine wpAnyH_take (i := 10) (v := ?v10d) (by simp only [List.getElem?_toArray, List.getElem?_cons_succ, List.getElem?_cons_zero]; rfl) (by kernel_rfl) (by kernel_rfl) (by kernel_rfl) (by exact fun _ _ _ h => h) (Or.inl ⟨by rfl, ?y10d⟩) (by assumption) ?r10d)
                case y10d =>
                  intro w hSw
                  obtain ⟨hs0, -⟩ := hSw
                  go_simp
                  all_goals (with_reducible rfl)
                (try go_frame)
                (refine wpAnyH_take (i := 11) (v := ?v11d) (by simp only [List.getElem?_toArray, List.getElem?_cons_succ, List.getElem?_cons_zero]; rfl) (by kernel_rfl) (by kernel_rfl) (by kernel_rfl) (by exact fun _ _ _ h => h) (Or.inl ⟨by rfl, ?y11d⟩) (by assumption) ?r11d)
                case y11d =>
                  intro w hSw
                  obtain ⟨hs0, -⟩ := hSw
                  go_simp
                  all_goals (with_reducible rfl)
                (try go_frame)
                (refine wpAnyH_take (i := 12) (v := ?v12d) (by simp only [List.getElem?_toArray, List.getElem?_cons_succ, List.getElem?_cons_zero]; rfl) (by kernel_rfl) (by kernel_rfl) (by kernel_rfl) (by exact fun _ _ _ h => h) (Or.inl ⟨by rfl, ?y12d⟩) (by assumption) ?r12d)
                case y12d =>
                  intro w hSw
                  obtain ⟨hs0, -⟩ := hSw
                  go_simp
                  all_goals (with_reducible rfl)
                (try go_frame)
                (refine wpAnyH_take (i := 13) (v := ?v13d) (by simp only [List.getElem?_toArray, List.getElem?_cons_succ, List.getElem?_cons_zero]; rfl) (by kernel_rfl) (by kernel_rfl) (by kernel_rfl) (by exact fun _ _ _ h => h) (Or.inl ⟨by rfl, ?y13d⟩) (by assumption) ?r13d)
                case y13d =>
                  intro w hSw
                  obtain ⟨hs0, -⟩ := hSw
                  go_simp
                  all_goals (with_reducible rfl)
                (try go_frame)
                (refine wpAnyH_take (i := 14) (v := ?v14d) (by simp only [List.getElem?_toArray, List.getElem?_cons_succ, List.getElem?_cons_zero]; rfl) (by kernel_rfl) (by kernel_rfl) (by kernel_rfl) (by exact fun _ _ _ h => h) (Or.inl ⟨by rfl, ?y14d⟩) (by assumption) ?r14d)
                case y14d =>
                  intro w hSw
                  obtain ⟨hs0, -⟩ := hSw
                  go_simp
                  all_goals (with_reducible rfl)
                (try go_frame)
                (refine wpAnyH_take (i := 15) (v := ?v15d) (by simp only [List.getElem?_toArray, List.getElem?_cons_succ, List.getElem?_cons_zero]; rfl) (by kernel_rfl) (by kernel_rfl) (by kernel_rfl) (by exact fun _ _ _ h => h) (Or.inl ⟨by rfl, ?y15d⟩) (by assumption) ?r15d)
                case y15d =>
                  intro w hSw
                  obtain ⟨hs0, -⟩ := hSw
                  go_simp
                  all_goals (with_reducible rfl)
                (try go_frame)
                (refine wpAnyH_take (i := 16) (v := ?v16d) (by simp only [List.getElem?_toArray, List.getElem?_cons_succ, List.getElem?_cons_zero]; rfl) (by kernel_rfl) (by kernel_rfl) (by kernel_rfl) (by exact fun _ _ _ h => h) (Or.inl ⟨by rfl, ?y16d⟩) (by assumption) ?r16d)
                case y16d =>
                  intro w hSw
                  obtain ⟨hs0, -⟩ := hSw
                  go_simp
                  all_goals (with_reducible rfl)
                (try go_frame)
                (refine wpAnyH_take (i := 17) (v := ?v17d) (by simp only [List.getElem?_toArray, List.getElem?_cons_succ, List.getElem?_cons_zero]; rfl) (by kernel_rfl) (by kernel_rfl) (by kernel_rfl) (by exact fun _ _ _ h => h) (Or.inl ⟨by rfl, ?y17d⟩) (by assumption) ?r17d)
                case y17d =>
                  intro w hSw
                  obtain ⟨hs0, -⟩ := hSw
                  go_simp
                  all_goals (with_reducible rfl)
                (try go_frame)
                (refine wpAnyH_take (i := 18) (v := ?v18d) (by simp only [List.getElem?_toArray, List.getElem?_cons_succ, List.getElem?_cons_zero]; rfl) (by kernel_rfl) (by kernel_rfl) (by kernel_rfl) (by exact fun _ _ _ h => h) (Or.inl ⟨by rfl, ?y18d⟩) (by assumption) ?r18d)
                case y18d =>
                  intro w hSw
                  obtain ⟨hs0, -⟩ := hSw
                  go_simp
                  all_goals (with_reducible rfl)
                (try go_frame)
                (refine wpAnyH_take (i := 19) (v := ?v19d) (by simp only [List.getElem?_toArray, List.getElem?_cons_succ, List.getElem?_cons_zero]; rfl) (by kernel_rfl) (by kernel_rfl) (by kernel_rfl) (by exact fun _ _ _ h => h) (Or.inl ⟨by rfl, ?y19d⟩) (by assumption) ?r19d)
                case y19d =>
                  intro w hSw
                  obtain ⟨hs0, -⟩ := hSw
                  go_simp
                  all_goals (with_reducible rfl)
                (try go_frame)
                (refine wpAnyH_take (i := 20) (v := ?v20d) (by simp only [List.getElem?_toArray, List.getElem?_cons_succ, List.getElem?_cons_zero]; rfl) (by kernel_rfl) (by kernel_rfl) (by kernel_rfl) (by exact fun _ _ _ h => h) (Or.inl ⟨by rfl, ?y20d⟩) (by assumption) ?r20d)
                case y20d =>
                  intro w hSw
                  obtain ⟨hs0, -⟩ := hSw
                  go_simp
                  all_goals (with_reducible rfl)
                (try go_frame)
                (refine wpAnyH_take (i := 21) (v := ?v21d) (by simp only [List.getElem?_toArray, List.getElem?_cons_succ, List.getElem?_cons_zero]; rfl) (by kernel_rfl) (by kernel_rfl) (by kernel_rfl) (by exact fun _ _ _ h => h) (Or.inl ⟨by rfl, ?y21d⟩) (by assumption) ?r21d)
                case y21d =>
                  intro w hSw
                  obtain ⟨hs0, -⟩ := hSw
                  go_simp
                  all_goals (with_reducible rfl)
                (try go_frame)
                (refine wpAnyH_take (i := 22) (v := ?v22d) (by simp only [List.getElem?_toArray, List.getElem?_cons_succ, List.getElem?_cons_zero]; rfl) (by kernel_rfl) (by kernel_rfl) (by kernel_rfl) (by exact fun _ _ _ h => h) (Or.inl ⟨by rfl, ?y22d⟩) (by assumption) ?r22d)
                case y22d =>
                  intro w hSw
                  obtain ⟨hs0, -⟩ := hSw
                  go_simp
                  all_goals (with_reducible rfl)
                (try go_frame)
                refine wpAnyH_ready (rs := [23]) (by kernel_rfl) (by simp) ?_
                refine AllReadyH.cons (by simp only [List.getElem?_toArray, List.getElem?_cons_succ, List.getElem?_cons_zero]; rfl) (fun K hK => ?_) AllReadyH.nil
                go_simp
                (go_at_call 39; with_reducible refine (BF1.out _ (And.right (show HeldA gT k (.slice ai nr ci) wr _ by assumption))).mono ?_; rintro e wk ⟨rfl, yk⟩)
                refine hK.out _ _ ?_ (fun hHeld => ?_)
                · exact HeldA.more (by assumption) yk
                clear hK K
                (try go_frame)
                (refine wpAnyH_take (i := 24) (v := ?v24d) (by simp only [List.getElem?_toArray, List.getElem?_cons_succ, List.getElem?_cons_zero]; rfl) (by kernel_rfl) (by kernel_rfl) (by kernel_rfl) (by exact fun _ _ _ h => h) (Or.inl ⟨by rfl, ?y24d⟩) (by assumption) ?r24d)
                case y24d =>
                  intro w hSw
                  obtain ⟨hs0, -⟩ := hSw
                  go_simp
                  all_goals (with_reducible rfl)
                (try go_frame)
                (refine wpAnyH_take (i := 25) (v := ?v25d) (by simp only [List.getElem?_toArray, List.getElem?_cons_succ, List.getElem?_cons_zero]; rfl) (by kernel_rfl) (by kernel_rfl) (by kernel_rfl) (by exact fun _ _ _ h => h) (Or.inl ⟨by rfl, ?y25d⟩) (by assumption) ?r25d)
                case y25d =>
                  intro w hSw
                  obtain ⟨hs0, -⟩ := hSw
                  go_simp
                  all_goals (with_reducible rfl)
                (try go_frame)
                (refine wpAnyH_take (i := 26) (v := ?v26d) (by simp only [List.getElem?_toArray, List.getElem?_cons_succ, List.getElem?_cons_zero]; rfl) (by kernel_rfl) (by kernel_rfl) (by kernel_rfl) (by exact fun _ _ _ h => h) (Or.inl ⟨by rfl, ?y26d⟩) (by assumption) ?r26d)
                case y26d =>
                  intro w hSw
                  obtain ⟨hs0, -⟩ := hSw
                  go_simp
                  all_goals (with_reducible rfl)
                (try go_frame)
                (refine wpAnyH_take (i := 27) (v := ?v27d) (by simp only [List.getElem?_toArray, List.getElem?_cons_succ, List.getElem?_cons_zero]; rfl) (by kernel_rfl) (by kernel_rfl) (by kernel_rfl) (by exact fun _ _ _ h => h) (Or.inl ⟨by rfl, ?y27d⟩) (by assumption) ?r27d)
                case y27d =>
                  intro w hSw
                  obtain ⟨hs0, -⟩ := hSw
                  go_simp
                  all_goals (with_reducible rfl)
                (try go_frame)
                (refine wpAnyH_take (i := 28) (v := ?v28d) (by simp only [List.getElem?_toArray, List.getElem?_cons_succ, List.getElem?_cons_zero]; rfl) (by kernel_rfl) (by kernel_rfl) (by kernel_rfl) (by exact fun _ _ _ h => h) (Or.inl ⟨by rfl, ?y28d⟩) (by assumption) ?r28d)
                case y28d =>
                  intro w hSw
                  obtain ⟨hs0, -⟩ := hSw
                  go_simp
                  all_goals (with_reducible rfl)
                (try go_frame)
                (refine wpAnyH_take (i := 29) (v := ?v29d) (by simp only [List.getElem?_toArray, List.getElem?_cons_succ, List.getElem?_cons_zero]; rfl) (by kernel_rfl) (by kernel_rfl) (by kernel_rfl) (by exact fun _ _ _ h => h) (Or.inl ⟨by rfl, ?y29d⟩) (by assumption) ?r29d)
                case y29d =>
                  intro w hSw
                  obtain ⟨hs0, -⟩ := hSw
                  go_simp
                  all_goals (with_reducible rfl)
                (try go_frame)
                (refine wpAnyH_take (i := 30) (v := ?v30d) (by simp only [List.getElem?_toArray, List.getElem?_cons_succ, List.getElem?_cons_zero]; rfl) (by kernel_rfl) (by kernel_rfl) (by kernel_rfl) (by exact fun _ _ _ h => h) (Or.inl ⟨by rfl, ?y30d⟩) (by assumption) ?r30d)
                case y30d =>
                  intro w hSw
                  obtain ⟨hs0, -⟩ := hSw
                  go_simp
                  all_goals (with_reducible rfl)
                (try go_frame)
                (refine wpAnyH_take (i := 31) (v := ?v31d) (by simp only [List.getElem?_toArray, List.getElem?_cons_succ, List.getElem?_cons_zero]; rfl) (by kernel_rfl) (by kernel_rfl) (by kernel_rfl) (by exact fun _ _ _ h => h) (Or.inl ⟨by rfl, ?y31d⟩) (by assumption) ?r31d)
                case y31d =>
                  intro w hSw
                  obtain ⟨hs0, -⟩ := hSw
                  go_simp
                  all_goals (with_reducible rfl)
                (try go_frame)
                (refine wpAnyH_take (i := 33) (v := ?v33d) (by simp only [List.getElem?_toArray, List.getElem?_cons_succ, List.getElem?_cons_zero]; rfl) (by kernel_rfl) (by kernel_rfl) (by kernel_rfl) (by exact fun _ _ _ h => h) (Or.inl ⟨by rfl, ?y33d⟩) (by assumption) ?r33d)
                case y33d =>
                  intro w hSw
                  obtain ⟨hs0, -⟩ := hSw
                  go_simp
                  all_goals (with_reducible rfl)
                (try go_frame)
                (refine wpAnyH_take (i := 34) (v := ?v34d) (by simp only [List.getElem?_toArray, List.getElem?_cons_succ, List.getElem?_cons_zero]; rfl) (by kernel_rfl) (by kernel_rfl) (by kernel_rfl) (by exact fun _ _ _ h => h) (Or.inl ⟨by rfl, ?y34d⟩) (by assumption) ?r34d)
                case y34d =>
                  intro w hSw
                  obtain ⟨hs0, -⟩ := hSw
                  go_simp
                  all_goals (with_reducible rfl)
                (try go_frame)
                (refine wpAnyH_take (i := 35) (v := ?v35d) (by simp only [List.getElem?_toArray, List.getElem?_cons_succ, List.getElem?_cons_zero]; rfl) (by kernel_rfl) (by kernel_rfl) (by kernel_rfl) (by exact fun _ _ _ h => h) (Or.inl ⟨by rfl, ?y35d⟩) (by assumption) ?r35d)
                case y35d =>
                  intro w hSw
                  obtain ⟨hs0, -⟩ := hSw
                  go_simp
                  all_goals (with_reducible rfl)
                (try go_frame)
                (refine wpAnyH_take (i := 36) (v := ?v36d) (by simp only [List.getElem?_toArray, List.getElem?_cons_succ, List.getElem?_cons_zero]; rfl) (by kernel_rfl) (by kernel_rfl) (by kernel_rfl) (by exact fun _ _ _ h => h) (Or.inl ⟨by rfl, ?y36d⟩) (by assumption) ?r36d)
                case y36d =>
                  intro w hSw
                  obtain ⟨hs0, -⟩ := hSw
                  go_simp
                  all_goals (with_reducible rfl)
                (try go_frame)
                (refine wpAnyH_take (i := 37) (v := ?v37d) (by simp only [List.getElem?_toArray, List.getElem?_cons_succ, List.getElem?_cons_zero]; rfl) (by kernel_rfl) (by kernel_rfl) (by kernel_rfl) (by exact fun _ _ _ h => h) (Or.inl ⟨by rfl, ?y37d⟩) (by assumption) ?r37d)
                case y37d =>
                  intro w hSw
                  obtain ⟨hs0, -⟩ := hSw
                  go_simp
                  all_goals (with_reducible rfl)
                (try go_frame)
                refine wpAnyH_ready (rs := [32]) (by kernel_rfl) (by simp) ?_
                refine AllReadyH.cons (by simp only [List.getElem?_toArray, List.getElem?_cons_succ, List.getElem?_cons_zero]; rfl) (fun K hK => ?_) AllReadyH.nil
                go_simp
                (go_at_call 16; with_reducible refine (TE1.out _ (And.right (show HeldA gT k (.slice ai nr ci) wr _ by assumption))).mono ?_; rintro e wk ⟨rfl, yk⟩)
                refine hK.out _ _ ?_ (fun hHeld => ?_)
                · exact HeldA.more (by assumption) yk
                clear hK K
                (try go_frame)
                refine wpAnyH_ready (rs := [38]) (by kernel_rfl) (by simp) ?_
                refine AllReadyH.cons (by simp only [List.getElem?_toArray, List.getElem?_cons_succ, List.getElem?_cons_zero]; rfl) (fun K hK => ?_) AllReadyH.nil
                go_simp
                (go_at_call 16; with_reducible refine (TF1.out _ (And.right (show HeldA gT k (.slice ai nr ci) wr _ by assumption))).mono ?_; rintro e wk ⟨rfl, yk⟩)
                refine hK.out _ _ ?_ (fun hHeld => ?_)
                · exact HeldA.more (by assumption) yk
                clear hK K
                (try go_frame)
                (refine wpAnyH_take (i := 39) (v := ?v39d) (by simp only [List.getElem?_toArray, List.getElem?_cons_succ, List.getElem?_cons_zero]; rfl) (by kernel_rfl) (by kernel_rfl) (by kernel_rfl) (by exact fun _ _ _ h => h) (Or.inl ⟨by rfl, ?y39d⟩) (by assumption) ?r39d)
                case y39d =>
                  intro w hSw
                  obtain ⟨hs0, -⟩ := hSw
                  go_simp
                  all_goals (with_reducible rfl)
                (try go_frame)
                (refine wpAnyH_take (i := 40) (v := ?v40d) (by simp only [List.getElem?_toArray, List.getElem?_cons_succ, List.getElem?_cons_zero]; rfl) (by kernel_rfl) (by kernel_rfl) (by kernel_rfl) (by exact fun _ _ _ h => h) (Or.inl ⟨by rfl, ?y40d⟩) (by assumption) ?r40d)
                case y40d =>
                  intro w hSw
                  obtain ⟨hs0, -⟩ := hSw
                  go_simp
                  all_goals (with_reducible rfl)
                (try go_frame)
                refine wpAnyH_done (by kernel_rfl) ?_ _
                have XR := Lib.hid (And.right (show HeldA gT k (.slice ai nr ci) wr _ by assumption))
                go_wp2
                go_roundw
                case rel => exact Lib.hid ⟨k + 1, by omega, by go_num, HX6.out.trans XR.out⟩
                case measure => simp [intOf]; omega
            · have hA1 : ¬ ((nr : Int) < (nt : Int)) := by omega
              have hB1 : ¬ ((nr : Int) = (nt : Int)) := by omega
              have hB2 : ((nr : Int) == (nt : Int)) = false := by simpa using hB1
              have hA2 : decide ((nr : Int) < (nt : Int)) = false := decide_eq_false hA1
              clear HL TE1 TF1 BF1
              go_wp2
              have K0b : HeldA gT k (.slice ai nr ci) wr wr.drew := ⟨(HX6.out.trans (by (repeat (first | exact Ext.refl _ | assumption | refine Ext.alloc ?_ _ | refine Ext.drewN ?_ _ | refine Ext.drew ?_)))).cell' HA.out hgT, by (repeat (first | exact Ext.refl _ | assumption | refine Ext.alloc ?_ _ | refine Ext.drewN ?_ _ | refine Ext.drew ?_))⟩
              refine wp_region_held_drew (S := HeldA gT k (.slice ai nr ci) wr) (by kernel_rfl) K0b (fun hHeld => ?_)
              (refine wpAnyH_take (i := 0) (v := ?v0b) (by simp only [List.getElem?_toArray, List.getElem?_cons_zero]; rfl) (by kernel_rfl) (by kernel_rfl) (by kernel_rfl) (by exact fun _ _ _ h => h) (Or.inl ⟨by rfl, ?y0b⟩) (by assumption) ?r0b)
              case y0b =>
                intro w hSw
                obtain ⟨hs0, -⟩ := hSw
                go_simp
                all_goals (with_reducible rfl)
              (try go_frame)
              (refine wpAnyH_take (i := 1) (v := ?v1b) (by simp only [List.getElem?_toArray, List.getElem?_cons_succ, List.getElem?_cons_zero]; rfl) (by kernel_rfl) (by kernel_rfl) (by kernel_rfl) (by exact fun _ _ _ h => h) (Or.inl ⟨by rfl, ?y1b⟩) (by assumption) ?r1b)
              case y1b =>
                intro w hSw
                obtain ⟨hs0, -⟩ := hSw
                go_simp
                all_goals (with_reducible rfl)
              (try go_frame)
              (refine wpAnyH_take (i := 2) (v := ?v2b) (by simp only [List.getElem?_toArray, List.getElem?_cons_succ, List.getElem?_cons_zero]; rfl) (by kernel_rfl) (by kernel_rfl) (by kernel_rfl) (by exact fun _ _ _ h => h) (Or.inl ⟨by rfl, ?y2b⟩) (by assumption) ?r2b)
              case y2b =>
                intro w hSw
                obtain ⟨hs0, -⟩ := hSw
                go_simp
                all_goals (with_reducible rfl)
              (try go_frame)
              (refine wpAnyH_take (i := 3) (v := ?v3b) (by simp only [List.getElem?_toArray, List.getElem?_cons_succ, List.getElem?_cons_zero]; rfl) (by kernel_rfl) (by kernel_rfl) (by kernel_rfl) (by exact fun _ _ _ h => h) (Or.inl ⟨by rfl, ?y3b⟩) (by assumption) ?r3b)
              case y3b =>
                intro w hSw
                obtain ⟨hs0, -⟩ := hSw
                go_simp
                all_goals (with_reducible rfl)
              (try go_frame)
              (refine wpAnyH_take (i := 4) (v := ?v4b) (by simp only [List.getElem?_toArray, List.getElem?_cons_succ, List.getElem?_cons_zero]; rfl) (by kernel_rfl) (by kernel_rfl) (by kernel_rfl) (by exact fun _ _ _ h => h) (Or.inl ⟨by rfl, ?y4b⟩) (by assumption) ?r4b)
              case y4b =>
                intro w hSw
                obtain ⟨hs0, -⟩ := hSw
                go_simp
                all_goals (with_reducible rfl)
              (try go_frame)
              (refine wpAnyH_take (i := 5) (v := ?v5b) (by simp only [List.getElem?_toArray, List.getElem?_cons_succ, List.getElem?_cons_zero]; rfl) (by kernel_rfl) (by kernel_rfl) (by kernel_rfl) (by exact fun _ _ _ h => h) (Or.inl ⟨by rfl, ?y5b⟩) (by assumption) ?r5b)
              case y5b =>
                intro w hSw
                obtain ⟨hs0, -⟩ := hSw
                go_simp
                all_goals (with_reducible rfl)
              (try go_frame)
              (refine wpAnyH_take (i := 6) (v := ?v6b) (by simp only [List.getElem?_toArray, List.getElem?_cons_succ, List.getElem?_cons_zero]; rfl) (by kernel_rfl) (by kernel_rfl) (by kernel_rfl) (by exact fun _ _ _ h => h) (Or.inl ⟨by rfl, ?y6b⟩) (by assumption) ?r6b)
              case y6b =>
                intro w hSw
                obtain ⟨hs0, -⟩ := hSw
                go_simp
                all_goals (with_reducible rfl)
              (try go_frame)
              (refine wpAnyH_take (i := 7) (v := ?v7b) (by simp only [List.getElem?_toArray, List.getElem?_cons_succ, List.getElem?_cons_zero]; rfl) (by kernel_rfl) (by kernel_rfl) (by kernel_rfl) (by exact fun _ _ _ h => h) (Or.inl ⟨by rfl, ?y7b⟩) (by assumption) ?r7b)
              case y7b =>
                intro w hSw
                obtain ⟨hs0, -⟩ := hSw
                go_simp
                all_goals (with_reducible rfl)
              (try go_frame)
              (refine wpAnyH_take (i := 8) (v := ?v8b) (by simp only [List.getElem?_toArray, List.getElem?_cons_succ, List.getElem?_cons_zero]; rfl) (by kernel_rfl) (by kernel_rfl) (by kernel_rfl) (by exact fun _ _ _ h => h) (Or.inl ⟨by rfl, ?y8b⟩) (by assumption) ?r8b)
              case y8b =>
                intro w hSw
                obtain ⟨hs0, -⟩ := hSw
                go_simp
                all_goals (with_reducible rfl)
              (try go_frame)
              (refine wpAnyH_take (i := 9) (v := ?v9b) (by simp only [List.getElem?_toArray, List.getElem?_cons_succ, List.getElem?_cons_zero]; rfl) (by kernel_rfl) (by kernel_rfl) (by kernel_rfl) (by exact fun _ _ _ h => h) (Or.inl ⟨by rfl, ?y9b⟩) (by assumption) ?r9b)
              case y9b =>
                intro w hSw
                obtain ⟨hs0, -⟩ := hSw
                go_simp
                all_goals (with_reducible rfl)
              (try go_frame)
              (refine wpAnyH_take (i := 10) (v := ?v10b) (by simp only [List.getElem?_toArray, List.getElem?_cons_succ, List.getElem?_cons_zero]; rfl) (by kernel_rfl) (by kernel_rfl) (by kernel_rfl) (by exact fun _ _ _ h => h) (Or.inl ⟨by rfl, ?y10b⟩) (by assumption) ?r10b)
              case y10b =>
                intro w hSw
                obtain ⟨hs0, -⟩ := hSw
                go_simp
                all_goals (with_reducible rfl)
              (try go_frame)
              (refine wpAnyH_take (i := 11) (v := ?v11b) (by simp only [List.getElem?_toArray, List.getElem?_cons_succ, List.getElem?_cons_zero]; rfl) (by kernel_rfl) (by kernel_rfl) (by kernel_rfl) (by exact fun _ _ _ h => h) (Or.inl ⟨by rfl, ?y11b⟩) (by assumption) ?r11b)
              case y11b =>
                intro w hSw
                obtain ⟨hs0, -⟩ := hSw
                go_simp
                all_goals (with_reducible rfl)
              (try go_frame)
              (refine wpAnyH_take (i := 12) (v := ?v12b) (by simp only [List.getElem?_toArray, List.getElem?_cons_succ, List.getElem?_cons_zero]; rfl) (by kernel_rfl) (by kernel_rfl) (by kernel_rfl) (by exact fun _ _ _ h => h) (Or.inl ⟨by rfl, ?y12b⟩) (by assumption) ?r12b)
              case y12b =>
                intro w hSw
                obtain ⟨hs0, -⟩ := hSw
                go_simp
                all_goals (with_reducible rfl)
              (try go_frame)
              (refine wpAnyH_take (i := 13) (v := ?v13b) (by simp only [List.getElem?_toArray, List.getElem?_cons_succ, List.getElem?_cons_zero]; rfl) (by kernel_rfl) (by kernel_rfl) (by kernel_rfl) (by exact fun _ _ _ h => h) (Or.inl ⟨by rfl, ?y13b⟩) (by assumption) ?r13b)
              case y13b =>
                intro w hSw
                obtain ⟨hs0, -⟩ := hSw
                go_simp
                all_goals (with_reducible rfl)
              (try go_frame)
              (refine wpAnyH_take (i := 14) (v := ?v14b) (by simp only [List.getElem?_toArray, List.getElem?_cons_succ, List.getElem?_cons_zero]; rfl) (by kernel_rfl) (by kernel_rfl) (by kernel_rfl) (by exact fun _ _ _ h => h) (Or.inl ⟨by rfl, ?y14b⟩) (by assumption) ?r14b)
              case y14b =>
                intro w hSw
                obtain ⟨hs0, -⟩ := hSw
                go_simp
                all_goals (with_reducible rfl)
              (try go_frame)
              (refine wpAnyH_take (i := 15) (v := ?v15b) (by simp only [List.getElem?_toArray, List.getElem?_cons_succ, List.getElem?_cons_zero]; rfl) (by kernel_rfl) (by kernel_rfl) (by kernel_rfl) (by exact fun _ _ _ h => h) (Or.inl ⟨by rfl, ?y15b⟩) (by assumption) ?r15b)
              case y15b =>
                intro w hSw
                obtain ⟨hs0, -⟩ := hSw
                go_simp
                all_goals (with_reducible rfl)
              (try go_frame)
              (refine wpAnyH_take (i := 16) (v := ?v16b) (by simp only [List.getElem?_toArray, List.getElem?_cons_succ, List.getElem?_cons_zero]; rfl) (by kernel_rfl) (by kernel_rfl) (by kernel_rfl) (by exact fun _ _ _ h => h) (Or.inl ⟨by rfl, ?y16b⟩) (by assumption) ?r16b)
              case y16b =>
                intro w hSw
                obtain ⟨hs0, -⟩ := hSw
                go_simp
                all_goals (with_reducible rfl)
              (try go_frame)
              (refine wpAnyH_take (i := 17) (v := ?v17b) (by simp only [List.getElem?_toArray, List.getElem?_cons_succ, List.getElem?_cons_zero]; rfl) (by kernel_rfl) (by kernel_rfl) (by kernel_rfl) (by exact fun _ _ _ h => h) (Or.inl ⟨by rfl, ?y17b⟩) (by assumption) ?r17b)
              case y17b =>
                intro w hSw
                obtain ⟨hs0, -⟩ := hSw
                go_simp
                all_goals (with_reducible rfl)
              (try go_frame)
              (refine wpAnyH_take (i := 18) (v := undef) (by simp only [List.getElem?_toArray, List.getElem?_cons_succ, List.getElem?_cons_zero]; rfl) (by kernel_rfl) (by kernel_rfl) (by kernel_rfl) (by exact fun _ _ _ h => h) (Or.inr ⟨by rfl, rfl⟩) (by assumption) ?_)
              (try go_frame)
              (refine wpAnyH_take (i := 19) (v := undef) (by simp only [List.getElem?_toArray, List.getElem?_cons_succ, List.getElem?_cons_zero]; rfl) (by kernel_rfl) (by kernel_rfl) (by kernel_rfl) (by exact fun _ _ _ h => h) (Or.inr ⟨by rfl, rfl⟩) (by assumption) ?_)
              (try go_frame)
              (refine wpAnyH_take (i := 20) (v := undef) (by simp only [List.getElem?_toArray, List.getElem?_cons_succ, List.getElem?_cons_zero]; rfl) (by kernel_rfl) (by kernel_rfl) (by kernel_rfl) (by exact fun _ _ _ h => h) (Or.inr ⟨by rfl, rfl⟩) (by assumption) ?_)
              (try go_frame)
              (refine wpAnyH_take (i := 21) (v := undef) (by simp only [List.getElem?_toArray, List.getElem?_cons_succ, List.getElem?_cons_zero]; rfl) (by kernel_rfl) (by kernel_rfl) (by kernel_rfl) (by exact fun _ _ _ h => h) (Or.inr ⟨by rfl, rfl⟩) (by assumption) ?_)
              (try go_frame)
              (refine wpAnyH_take (i := 22) (v := undef) (by simp only [List.getElem?_toArray, List.getElem?_cons_succ, List.getElem?_cons_zero]; rfl) (by kernel_rfl) (by kernel_rfl) (by kernel_rfl) (by exact fun _ _ _ h => h) (Or.inr ⟨by rfl, rfl⟩) (by assumption) ?_)
              (try go_frame)
              (refine wpAnyH_take (i := 23) (v := undef) (by simp only [List.getElem?_toArray, List.getElem?_cons_succ, List.getElem?_cons_zero]; rfl) (by kernel_rfl) (by kernel_rfl) (by kernel_rfl) (by exact fun _ _ _ h => h) (Or.inr ⟨by rfl, rfl⟩) (by assumption) ?_)
              (try go_frame)
              (refine wpAnyH_take (i := 24) (v := ?v24b) (by simp only [List.getElem?_toArray, List.getElem?_cons_succ, List.getElem?_cons_zero]; rfl) (by kernel_rfl) (by kernel_rfl) (by kernel_rfl) (by exact fun _ _ _ h => h) (Or.inl ⟨by rfl, ?y24b⟩) (by assumption) ?r24b)
              case y24b =>
                intro w hSw
                obtain ⟨hs0, -⟩ := hSw
                go_simp
                all_goals (with_reducible rfl)
              (try go_frame)
              (refine wpAnyH_take (i := 25) (v := ?v25b) (by simp only [List.getElem?_toArray, List.getElem?_cons_succ, List.getElem?_cons_zero]; rfl) (by kernel_rfl) (by kernel_rfl) (by kernel_rfl) (by exact fun _ _ _ h => h) (Or.inl ⟨by rfl, ?y25b⟩) (by assumption) ?r25b)
              case y25b =>
                intro w hSw
                obtain ⟨hs0, -⟩ := hSw
                go_simp
                all_goals (with_reducible rfl)
              (try go_frame)
              (refine wpAnyH_take (i := 26) (v := ?v26b) (by simp only [List.getElem?_toArray, List.getElem?_cons_succ, List.getElem?_cons_zero]; rfl) (by kernel_rfl) (by kernel_rfl) (by kernel_rfl) (by exact fun _ _ _ h => h) (Or.inl ⟨by rfl, ?y26b⟩) (by assumption) ?r26b)
              case y26b =>
                intro w hSw
                obtain ⟨hs0, -⟩ := hSw
                go_simp
                all_goals (with_reducible rfl)
              (try go_frame)
              (refine wpAnyH_take (i := 27) (v := undef) (by simp only [List.getElem?_toArray, List.getElem?_cons_succ, List.getElem?_cons_zero]; rfl) (by kernel_rfl) (by kernel_rfl) (by kernel_rfl) (by exact fun _ _ _ h => h) (Or.inr ⟨by rfl, rfl⟩) (by assumption) ?_)
              (try go_frame)
              (refine wpAnyH_take (i := 28) (v := undef) (by simp only [List.getElem?_toArray, List.getElem?_cons_succ, List.getElem?_cons_zero]; rfl) (by kernel_rfl) (by kernel_rfl) (by kernel_rfl) (by exact fun _ _ _ h => h) (Or.inr ⟨by rfl, rfl⟩) (by assumption) ?_)
              (try go_frame)
              (refine wpAnyH_take (i := 29) (v := undef) (by simp only [List.getElem?_toArray, List.getElem?_cons_succ, List.getElem?_cons_zero]; rfl) (by kernel_rfl) (by kernel_rfl) (by kernel_rfl) (by exact fun _ _ _ h => h) (Or.inr ⟨by rfl, rfl⟩) (by assumption) ?_)
              (try go_frame)
              (refine wpAnyH_take (i := 30) (v := undef) (by simp only [List.getElem?_toArray, List.getElem?_cons_succ, List.getElem?_cons_zero]; rfl) (by kernel_rfl) (by kernel_rfl) (by kernel_rfl) (by exact fun _ _ _ h => h) (Or.inr ⟨by rfl, rfl⟩) (by assumption) ?_)
              (try go_frame)
              (refine wpAnyH_take (i := 31) (v := undef) (by simp only [List.getElem?_toArray, List.getElem?_cons_succ, List.getElem?_cons_zero]; rfl) (by kernel_rfl) (by kernel_rfl) (by kernel_rfl) (by exact fun _ _ _ h => h) (Or.inr ⟨by rfl, rfl⟩) (by assumption) ?_)
              (try go_frame)
              (refine wpAnyH_take (i := 32) (v := undef) (by simp only [List.getElem?_toArray, List.getElem?_cons_succ, List.getElem?_cons_zero]; rfl) (by kernel_rfl) (by kernel_rfl) (by kernel_rfl) (by exact fun _ _ _ h => h) (Or.inr ⟨by rfl, rfl⟩) (by assumption) ?_)
              (try go_frame)
              (refine wpAnyH_take (i := 33) (v := undef) (by simp only [List.getElem?_toArray, List.getElem?_cons_succ, List.getElem?_cons_zero]; rfl) (by kernel_rfl) (by kernel_rfl) (by kernel_rfl) (by exact fun _ _ _ h => h) (Or.inr ⟨by rfl, rfl⟩) (by assumption) ?_)
              (try go_frame)
              (refine wpAnyH_take (i := 34) (v := undef) (by simp only [List.getElem?_toArray, List.getElem?_cons_succ, List.getElem?_cons_zero]; rfl) (by kernel_rfl) (by kernel_rfl) (by kernel_rfl) (by exact fun _ _ _ h => h) (Or.inr ⟨by rfl, rfl⟩) (by assumption) ?_)
              (try go_frame)
              (refine wpAnyH_take (i := 35) (v := undef) (by simp only [List.getElem?_toArray, List.getElem?_cons_succ, List.getElem?_cons_zero]; rfl) (by kernel_rfl) (by kernel_rfl) (by kernel_rfl) (by exact fun _ _ _ h => h) (Or.inr ⟨by rfl, rfl⟩) (by assumption) ?_)
              (try go_frame)
              (refine wpAnyH_take (i := 36) (v := undef) (by simp only [List.getElem?_toArray, List.getElem?_cons_succ, List.getElem?_cons_zero]; rfl) (by kernel_rfl) (by kernel_rfl) (by kernel_rfl) (by exact fun _ _ _ h => h) (Or.inr ⟨by rfl, rfl⟩) (by assumption) ?_)
              (try go_frame)
              (refine wpAnyH_take (i := 37) (v := undef) (by simp only [List.getElem?_toArray, List.getElem?_cons_succ, List.getElem?_cons_zero]; rfl) (by kernel_rfl) (by kernel_rfl) (by kernel_rfl) (by exact fun _ _ _ h => h) (Or.inr ⟨by rfl, rfl⟩) (by assumption) ?_)
              (try go_frame)
              (refine wpAnyH_take (i := 38) (v := undef) (by simp only [List.getElem?_toArray, List.getElem?_cons_succ, List.getElem?_cons_zero]; rfl) (by kernel_rfl) (by kernel_rfl) (by kernel_rfl) (by exact fun _ _ _ h => h) (Or.inr ⟨by rfl, rfl⟩) (by assumption) ?_)
              (try go_frame)
              (refine wpAnyH_take (i := 39) (v := undef) (by simp only [List.getElem?_toArray, List.getElem?_cons_succ, List.getElem?_cons_zero]; rfl) (by kernel_rfl) (by kernel_rfl) (by kernel_rfl) (by exact fun _ _ _ h => h) (Or.inr ⟨by rfl, rfl⟩) (by assumption) ?_)
              (try go_frame)
              (refine wpAnyH_take (i := 40) (v := ?v40b) (by simp only [List.getElem?_toArray, List.getElem?_cons_succ, List.getElem?_cons_zero]; rfl) (by kernel_rfl) (by kernel_rfl) (by kernel_rfl) (by exact fun _ _ _ h => h) (Or.inl ⟨by rfl, ?y40b⟩) (by assumption) ?r40b)
              case y40b =>
                intro w hSw
                obtain ⟨hs0, -⟩ := hSw
                go_simp
                all_goals (with_reducible rfl)
              (try go_frame)
              refine wpAnyH_done (by kernel_rfl) ?_ _
              have XR := Lib.hid (And.right (show HeldA gT k (.slice ai nr ci) wr _ by assumption))
              go_wp2
              go_roundw
              case rel => exact Lib.hid ⟨k + 1, by omega, by go_num, HX6.out.trans XR.out⟩
              case measure => simp [intOf]; omega
        · obtain rfl : k = T.length := by omega
          have XW := Lib.hid (X5.out.trans HX6.out)
          replace I2 := Lib.hid (I2.out.ext HX6.out)
          have hne : (tbB E tt != tbB F tt) = true := by have := HTB.out; simpa using this
          clear HDL O5 S5 HX6 X5 HTB
          go_wp2_with fail
          refine (CT.out _ (XW.out.trans (by (repeat (first | exact Ext.refl _ | assumption | refine Ext.alloc ?_ _ | refine Ext.drewN ?_ _ | refine Ext.drew ?_))))).mono ?_
          rintro r w6 ⟨a6, c6, rfl, i6, x6⟩
          replace I2 := Lib.hid (I2.out.ext (Ext.trans (show Ext wr _ by (repeat (first | exact Ext.refl _ | assumption | refine Ext.alloc ?_ _ | refine Ext.drewN ?_ _ | refine Ext.drew ?_))) x6))
          have X6 := Lib.hid (XW.out.trans (Ext.trans (by (repeat (first | exact Ext.refl _ | assumption | refine Ext.alloc ?_ _ | refine Ext.drewN ?_ _ | refine Ext.drew ?_))) x6))
          have I6 := Lib.hid i6
          clear i6 x6 CT XW
          go_wp2_with fail
          with_reducible refine (TE.out _ a2 c2 tt (X6.out.trans (by (repeat (first | exact Ext.refl _ | assumption | refine Ext.alloc ?_ _ | refine Ext.drewN ?_ _ | refine Ext.drew ?_)))) (I2.out.ext (by (repeat (first | exact Ext.refl _ | assumption | refine Ext.alloc ?_ _ | refine Ext.drewN ?_ _ | refine Ext.drew ?_)))) (by omega)).mono ?_
          rintro r w7 ⟨rfl, x7⟩
          have T7 := Lib.hid (Ext.trans (show Ext w6 _ by (repeat (first | exact Ext.refl _ | assumption | refine Ext.alloc ?_ _ | refine Ext.drewN ?_ _ | refine Ext.drew ?_))) x7)
          replace I2 := Lib.hid (I2.out.ext T7.out)
          replace I6 := Lib.hid (I6.out.ext T7.out)
          have X7 := Lib.hid (X6.out.trans T7.out)
          clear x7 TE T7 X6
          go_wp2_with fail
          with_reducible refine (TF.out _ a2 c2 tt (X7.out.trans (by (repeat (first | exact Ext.refl _ | assumption | refine Ext.alloc ?_ _ | refine Ext.drewN ?_ _ | refine Ext.drew ?_)))) (I2.out.ext (by (repeat (first | exact Ext.refl _ | assumption | refine Ext.alloc ?_ _ | refine Ext.drewN ?_ _ | refine Ext.drew ?_)))) (by omega)).mono ?_
          rintro r w8 ⟨rfl, x8⟩
          have T8 := Lib.hid (Ext.trans (show Ext w7 _ by (repeat (first | exact Ext.refl _ | assumption | refine Ext.alloc ?_ _ | refine Ext.drewN ?_ _ | refine Ext.drew ?_))) x8)
          replace I2 := Lib.hid (I2.out.ext T8.out)
          replace I6 := Lib.hid (I6.out.ext T8.out)
          have X8 := Lib.hid (X7.out.trans T8.out)
          clear x8 TF T8 X7
          generalize tbB E tt = be at *
          generalize tbB F tt = bf at *
          cases be <;> cases bf
          case false.false => exact absurd hne (by decide)
          case true.true => exact absurd hne (by decide)
          all_goals
            clear hne
            go_wp2_with fail
            refine (sameInts_d a6 a2 c6 c2 tt tt _ (I6.out.ext (by (repeat (first | exact Ext.refl _ | assumption | refine Ext.alloc ?_ _ | refine Ext.drewN ?_ _ | refine Ext.drew ?_)))) (I2.out.ext (by (repeat (first | exact Ext.refl _ | assumption | refine Ext.alloc ?_ _ | refine Ext.drewN ?_ _ | refine Ext.drew ?_)))) (by omega) (by omega)).mono ?_
            rintro e w4 ⟨rfl, m, rfl⟩
            go_wp2
            go_ret
            exact ⟨by simp, X1.out.trans (X8.out.trans (by (repeat (first | exact Ext.refl _ | assumption | refine Ext.alloc ?_ _ | refine Ext.drewN ?_ _ | refine Ext.drew ?_))))⟩
  · go_enter Tryz.func7, Tryz.ntmps7
    go_wp2
    go_ret
    exact ⟨rfl, Ext.refl _⟩
end Go.Proofs.YtlaamecfknkmlaaGreat
