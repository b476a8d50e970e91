/- Merged texts: contracts and plain lemmas (LRowsOf). -/
import Derived.Test.YtlaamecfknkmlaaGreatGrNh
import Derived.Test.YtlaamecfknkmlaaGreatGrRb
import Derived.Test.YtlaamecfknkmlaaGreatGrBk
import Derived.Test.YtlaamecfknkmlaaGreatGr6
import Derived.Test.YtlaamecfknkmlaaGreatGrMd
import Derived.Test.YtlaamecfknkmlaaGreatGrHb
import Derived.Test.YtlaamecfknkmlaaGreatGr3
import Derived.Deep.RegionHeld3
import Derived.Lib.QuietBelow
/- For all bytes: the rows of an expression drawn are the reference's; two expressions that are told equal have the same rows; backwards, in the model backwards, they are the rows back (FnRowsOf). -/
namespace Go.Proofs.YtlaamecfknkmlaaGreat
set_option linter.unusedVariables false
open Go.RowKit Go.Kt Go.Sort

set_option maxRecDepth 100000 in
set_option maxHeartbeats 4000000 in
theorem fnRowsOf_c (a0 : Option Addr) (c0 : Nat) (l0 : List Int) (a1 : Option Addr) (c1 : Nat) (l1 : List Int) (w : World) (h0 : BytesAt w a0 l0) (hlen0 : l0.length ≤ 9223372036854775807) (hcap0 : l0.length ≤ c0) (h1 : BytesAt w a1 l1) (hlen1 : l1.length ≤ 9223372036854775807) (hcap1 : l1.length ≤ c1) :
    Calls Tryz.prog 9 #[.slice a0 l0.length c0, .slice a1 l1.length c1] w fun e w' => e = .returned (.bool true) ∧ Ext w w' := by
  by_cases hb0 : l0.length ≤ 1048576
  · by_cases hb1 : l1.length ≤ 1048576
    · go_enter Tryz.func9, Tryz.ntmps9
      go_wp2_with fail
      refine (drawRowsOf_c a0 c0 l0 _ h0 hb0 hcap0).mono ?_
      rintro e w1 ⟨st, p, q, a, cap, ll, a6, c6, T, rfl, hst, hr, hlc, h3, h8, i6, hT, hT6, hx⟩
      have H8 := Lib.hid (fun i hi => Nat.le_trans (h8 i hi) (show 8 ≤ 4194304 by omega))
      have hr1 := Lib.hid hr
      have hx1 := Lib.hid hx
      have hi1 := Lib.hid i6
      have hB1 := Lib.hid (h1.ext hx)
      clear h8 hr hx i6
      go_wp2_with fail
      refine (iRowsOf_c st p q a cap ll a6 c6 T _ (hr1.out.ext (by (repeat (first | exact Ext.refl _ | assumption | refine Ext.alloc ?_ _ | refine Ext.drewN ?_ _ | refine Ext.drew ?_)))) (by omega) H8.out (hi1.out.ext (by (repeat (first | exact Ext.refl _ | assumption | refine Ext.alloc ?_ _ | refine Ext.drewN ?_ _ | refine Ext.drew ?_)))) (by omega)).mono ?_
      rintro e w2 ⟨v7, rfl, o7, y⟩
      obtain ⟨a7, c7, rfl, i7⟩ := o7.shape
      have hb2 := Lib.hid ((box_made w1 37 st p q (.slice a ll.length cap)).ext y)
      have k2 := hb2.out.out
      have hB2 := Lib.hid ((hB1.out.ext (by (repeat (first | exact Ext.refl _ | assumption | refine Ext.alloc ?_ _ | refine Ext.drewN ?_ _ | refine Ext.drew ?_)))).ext y)
      have hr2 := Lib.hid ((hr1.out.ext (by (repeat (first | exact Ext.refl _ | assumption | refine Ext.alloc ?_ _ | refine Ext.drewN ?_ _ | refine Ext.drew ?_)))).ext y)
      have hi2 := Lib.hid ((hi1.out.ext (by (repeat (first | exact Ext.refl _ | assumption | refine Ext.alloc ?_ _ | refine Ext.drewN ?_ _ | refine Ext.drew ?_)))).ext y)
      have hx2 := Lib.hid ((hx1.out.trans (by (repeat (first | exact Ext.refl _ | assumption | refine Ext.alloc ?_ _ | refine Ext.drewN ?_ _ | refine Ext.drew ?_)))).trans y)
      have hF2 := Lib.hid i7
      have hFl := rowsF_len st p q ll T
      clear y hr1 hx1 hi1 o7 i7
      go_wp2_with fail
      refine (sRowsOf_c st p q a cap ll a6 c6 T _ (hr2.out.ext (by (repeat (first | exact Ext.refl _ | assumption | refine Ext.alloc ?_ _ | refine Ext.drewN ?_ _ | refine Ext.drew ?_)))) (by omega) H8.out (hi2.out.ext (by (repeat (first | exact Ext.refl _ | assumption | refine Ext.alloc ?_ _ | refine Ext.drewN ?_ _ | refine Ext.drew ?_)))) (by omega) hT6).mono ?_
      rintro e w3 ⟨v8, rfl, o8, y⟩
      obtain ⟨a8, c8, rfl, i8⟩ := o8.shape
      have hb3 := Lib.hid ((hb2.out.ext (by (repeat (first | exact Ext.refl _ | assumption | refine Ext.alloc ?_ _ | refine Ext.drewN ?_ _ | refine Ext.drew ?_)))).ext y)
      have k3 := hb3.out.out
      have hB3 := Lib.hid ((hB2.out.ext (by (repeat (first | exact Ext.refl _ | assumption | refine Ext.alloc ?_ _ | refine Ext.drewN ?_ _ | refine Ext.drew ?_)))).ext y)
      have hr3 := Lib.hid ((hr2.out.ext (by (repeat (first | exact Ext.refl _ | assumption | refine Ext.alloc ?_ _ | refine Ext.drewN ?_ _ | refine Ext.drew ?_)))).ext y)
      have hi3 := Lib.hid ((hi2.out.ext (by (repeat (first | exact Ext.refl _ | assumption | refine Ext.alloc ?_ _ | refine Ext.drewN ?_ _ | refine Ext.drew ?_)))).ext y)
      have hx3 := Lib.hid ((hx2.out.trans (by (repeat (first | exact Ext.refl _ | assumption | refine Ext.alloc ?_ _ | refine Ext.drewN ?_ _ | refine Ext.drew ?_)))).trans y)
      have hF3 := Lib.hid ((hF2.out.ext (by (repeat (first | exact Ext.refl _ | assumption | refine Ext.alloc ?_ _ | refine Ext.drewN ?_ _ | refine Ext.drew ?_)))).ext y)
      have hG3 := Lib.hid i8
      clear y k2 hb2 hr2 hx2 hi2 hF2 o8 i8
      have hq : (rowsF st p q ll T == rowsF st p q ll T) = true := by simp
      go_wp2_with fail
      refine (sameInts_c a7 a8 c7 c8 _ _ _ (hF3.out.ext (by (repeat (first | exact Ext.refl _ | assumption | refine Ext.alloc ?_ _ | refine Ext.drewN ?_ _ | refine Ext.drew ?_)))) (hG3.out.ext (by (repeat (first | exact Ext.refl _ | assumption | refine Ext.alloc ?_ _ | refine Ext.drewN ?_ _ | refine Ext.drew ?_)))) (by omega) (by omega)).mono ?_
      rw [hq]
      rintro e w4 ⟨rfl, y⟩
      have hb4 := Lib.hid ((hb3.out.ext (by (repeat (first | exact Ext.refl _ | assumption | refine Ext.alloc ?_ _ | refine Ext.drewN ?_ _ | refine Ext.drew ?_)))).ext y)
      have k4 := hb4.out.out
      have hB4 := Lib.hid ((hB3.out.ext (by (repeat (first | exact Ext.refl _ | assumption | refine Ext.alloc ?_ _ | refine Ext.drewN ?_ _ | refine Ext.drew ?_)))).ext y)
      have hr4 := Lib.hid ((hr3.out.ext (by (repeat (first | exact Ext.refl _ | assumption | refine Ext.alloc ?_ _ | refine Ext.drewN ?_ _ | refine Ext.drew ?_)))).ext y)
      have hi4 := Lib.hid ((hi3.out.ext (by (repeat (first | exact Ext.refl _ | assumption | refine Ext.alloc ?_ _ | refine Ext.drewN ?_ _ | refine Ext.drew ?_)))).ext y)
      have hx4 := Lib.hid ((hx3.out.trans (by (repeat (first | exact Ext.refl _ | assumption | refine Ext.alloc ?_ _ | refine Ext.drewN ?_ _ | refine Ext.drew ?_)))).trans y)
      have hF4 := Lib.hid ((hF3.out.ext (by (repeat (first | exact Ext.refl _ | assumption | refine Ext.alloc ?_ _ | refine Ext.drewN ?_ _ | refine Ext.drew ?_)))).ext y)
      clear y k3 hb3 hr3 hx3 hi3 hF3 hG3 hq
      cases hv : (mvB st p q ll && kvB T)
      · have e0 : rowsF st p q ll T = [] := by unfold rowsF; rw [hv]; rfl
        rw [e0]
        clear hv
        go_wp2_with fail
        refine (alive_c _).mono ?_
        rintro e w5 ⟨rfl, rfl⟩
        go_wp2
        go_ret
        exact ⟨rfl, hx4.out.trans (by (repeat (first | exact Ext.refl _ | assumption | refine Ext.alloc ?_ _ | refine Ext.drewN ?_ _ | refine Ext.drew ?_)))⟩
      · rw [Bool.and_eq_true] at hv
        have hm := hv.1
        have hkv := hv.2
        obtain ⟨sn, P, Q, hsn, rfl, rfl, b1, b2, b3, b4, b5, b6, b7, b8⟩ := mvB_bounds hm
        obtain rfl : st = sn := by omega
        have RX : Rel st (rowsF st P Q ll T) := rowsF_relH hm hkv
        have hn0 : 0 < (rowsF st P Q ll T).length := by rw [RX.len]; omega
        have hne : (((rowsF st P Q ll T).length : Int) == 0) = false := by rw [beq_eq_false_iff_ne]; omega
        clear hv
        go_wp2_with fail
        refine (drawPairsOf_c a1 c1 l1 _ (hB4.out.ext (by (repeat (first | exact Ext.refl _ | assumption | refine Ext.alloc ?_ _ | refine Ext.drewN ?_ _ | refine Ext.drew ?_)))) hb1 hcap1).mono ?_
        rintro e w5 ⟨a8, a9, n8, c8, n9, c9, rfl, ⟨hc8, E8, rfl, i8⟩, ⟨hc9, E9, rfl, i9⟩, hE8, hE9, y⟩
        have hb5 := (hb4.out.ext (by (repeat (first | exact Ext.refl _ | assumption | refine Ext.alloc ?_ _ | refine Ext.drewN ?_ _ | refine Ext.drew ?_)))).ext y
        have hr5 := (hr4.out.ext (by (repeat (first | exact Ext.refl _ | assumption | refine Ext.alloc ?_ _ | refine Ext.drewN ?_ _ | refine Ext.drew ?_)))).ext y
        have hi5 := (hi4.out.ext (by (repeat (first | exact Ext.refl _ | assumption | refine Ext.alloc ?_ _ | refine Ext.drewN ?_ _ | refine Ext.drew ?_)))).ext y
        have hx5 := Lib.hid ((hx4.out.trans (by (repeat (first | exact Ext.refl _ | assumption | refine Ext.alloc ?_ _ | refine Ext.drewN ?_ _ | refine Ext.drew ?_)))).trans y)
        have hF5 := (hF4.out.ext (by (repeat (first | exact Ext.refl _ | assumption | refine Ext.alloc ?_ _ | refine Ext.drewN ?_ _ | refine Ext.drew ?_)))).ext y
        have CV : Hid (∀ w', Ext w5 w' → Calls Tryz.prog 34 #[.int .i64 st, .slice a7 (rowsF st P Q ll T).length c7] w' fun e w'' => e = .returned (.bool true) ∧ Ext w' w'') := fun w' x => by
          have := iRowsValid_c st a7 c7 (rowsF st P Q ll T) w' (hF5.ext x) (by have := RX.len; omega)
          rw [rvB_rel (by omega) (by omega) RX] at this; exact this
        have CE : Hid (∀ w', Ext w5 w' → Calls Tryz.prog 29 #[.slice a8 E8.length c8, .slice a9 E9.length c9] w' fun r w'' => r = .returned (.int .i64 (eqF E8 E9)) ∧ Ext w' w'') := fun w' x => iEqual_c a8 a9 c8 c9 E8 E9 w' (i8.ext x) (i9.ext x) (by omega) (by omega)
        have CR8 : Hid (∀ w', Ext w5 w' → Calls Tryz.prog 36 #[modelV st P Q a ll.length cap, .slice a8 E8.length c8] w' (RetI 3 w' (rowsF st P Q ll E8))) := fun w' x => iRowsOf_c st P Q a cap ll a8 c8 E8 w' (hr5.ext x) (by omega) H8.out (i8.ext x) (by omega)
        have CR9 : Hid (eqF E8 E9 = 1 → ∀ w', Ext w5 w' → Calls Tryz.prog 36 #[modelV st P Q a ll.length cap, .slice a9 E9.length c9] w' (RetI 3 w' (rowsF st P Q ll E8))) := fun h w' x => by
          rw [ok_rowsF hm (eqF_one h)]
          exact iRowsOf_c st P Q a cap ll a9 c9 E9 w' (hr5.ext x) (by omega) H8.out (i9.ext x) (by omega)
        have CS2 : Hid (∀ w' ar cr ab cb, IntsAt w' ar (rowsF st P Q ll E8) → IntsAt w' ab (rowsF st P Q ll E8) → Calls Tryz.prog 32 #[.slice ar (rowsF st P Q ll E8).length cr, .slice ab (rowsF st P Q ll E8).length cb] w' fun e w'' => e = .returned (.bool true) ∧ Ext w' w'') := fun w' ar cr ab cb g1 g2 => by
          have hl := rowsF_len st P Q ll E8
          have := sameInts_c ar ab cr cb _ _ w' g1 g2 (by omega) (by omega)
          rw [show (rowsF st P Q ll E8 == rowsF st P Q ll E8) = true by simp] at this; exact this
        have CM : Hid (∀ w', Ext w5 w' → Calls Tryz.prog 48 #[modelV st P Q a ll.length cap] w' (RetM 3 23 w' (mbI st P Q ll st) (mbI st P Q ll P) (mbI st P Q ll Q) (mbL st P Q ll))) := fun w' x => iModelBack_c st P Q a cap ll w' (hr5.ext x) (by omega) H8.out
        have CK : Hid (∀ w', Ext w5 w' → Calls Tryz.prog 49 #[.slice a6 T.length c6] w' (RetI 3 w' (katB T))) := fun w' x => iKatBack_c a6 c6 T w' (hi5.ext x) (by omega)
        have hKB : katB T = (treeW T).back.words := by unfold katB; rw [hkv]; rfl
        have hKl : (katB T).length ≤ 1048576 := by
          have := kvB_len (katB_back hkv hKB).1; omega
        have CRO : Hid (∀ w' am cm ak ck, RowsAt w' am (mbL st P Q ll) → IntsAt w' ak (katB T) → Calls Tryz.prog 36 #[modelV (mbI st P Q ll st) (mbI st P Q ll P) (mbI st P Q ll Q) am (mbL st P Q ll).length cm, .slice ak (katB T).length ck] w' (RetI 3 w' (backF st (rowsF st P Q ll T)))) := fun w' am cm ak ck g1 g2 => by
          rw [← rows_back hm hkv hKB]
          refine iRowsOf_c _ _ _ am cm (mbL st P Q ll) ak ck (katB T) w' g1 (by have := mbL_len st P Q ll; omega) (fun i hi => ?_) g2 hKl
          have h1 := totTo_row (mbL st P Q ll) i _ hi
          have h2 := mbL_tot st P Q ll
          omega
        have CB : Hid (∀ w', Ext w5 w' → Calls Tryz.prog 50 #[.int .i64 st, .slice a7 (rowsF st P Q ll T).length c7] w' (RetI 3 w' (backF st (rowsF st P Q ll T)))) := fun w' x => iRowsBack_c st a7 c7 _ w' (hF5.ext x) (by omega)
        have CS : Hid (∀ w' ar cr ab cb, IntsAt w' ar (backF st (rowsF st P Q ll T)) → IntsAt w' ab (backF st (rowsF st P Q ll T)) → Calls Tryz.prog 32 #[.slice ar (backF st (rowsF st P Q ll T)).length cr, .slice ab (backF st (rowsF st P Q ll T)).length cb] w' fun e w'' => e = .returned (.bool true) ∧ Ext w' w'') := fun w' ar cr ab cb g1 g2 => by
          have hl : (backF st (rowsF st P Q ll T)).length ≤ 5 := by
            unfold backF
            split
            · rw [backTo_length]; exact hFl
            · simp
          have := sameInts_c ar ab cr cb _ _ w' g1 g2 (by omega) (by omega)
          rw [show (backF st (rowsF st P Q ll T) == backF st (rowsF st P Q ll T)) = true by simp] at this; exact this
        have HB5 := Lib.hid hb5
        clear hb5 hr5 hi5 hF5 hm hkv RX hb4 hr4 hi4 hx4 hF4 k4 b3 b4 b5 b6 b7 b8 hE8 hE9 i8 i9 y hn0 hFl hB4 H8 hKB hKl hc8 hc9
        generalize backF st (rowsF st P Q ll T) = RB at *
        generalize rowsF st P Q ll T = X at *
        generalize rowsF st P Q ll E8 = Z at *
        generalize mbI st P Q ll st = S2 at *
        generalize mbI st P Q ll P = P2 at *
        generalize mbI st P Q ll Q = Q2 at *
        generalize mbL st P Q ll = L2 at *
        generalize katB T = KB at *
        generalize eqF E8 E9 = n at *
        by_cases hn1 : n = 1
        · subst hn1
          replace CR9 := Lib.hid (CR9.out rfl)
          as_aux_lemma =>
            go_wp2
            have K0b := HeldB.start HB5.out (show Ext w5 w5.drew from (by (repeat (first | exact Ext.refl _ | assumption | refine Ext.alloc ?_ _ | refine Ext.drewN ?_ _ | refine Ext.drew ?_))))
            refine wp_region_held_drew (S := HeldB w1.heap.size st P Q (.slice a ll.length cap) w5) (by kernel_rfl) K0b (fun hHeld => ?_)
            (refine wpAnyH_take (i := 0) (v := ?v0b) (by simp only [List.getElem?_toArray, List.getElem?_cons_zero]; rfl) (by kernel_rfl) (by kernel_rfl) (by kernel_rfl) (by exact fun _ _ _ h => h) (Or.inl ⟨by rfl, ?y0b⟩) (by assumption) ?r0b)
            case y0b =>
              intro w hSw
              obtain ⟨⟨hs0, hs1, hs2, hs3⟩, -⟩ := hSw
              go_simp
              all_goals (with_reducible rfl)
            case r0b =>
              (try go_frame)
              (refine wpAnyH_take (i := 1) (v := ?v1b) (by simp only [List.getElem?_toArray, List.getElem?_cons_succ, List.getElem?_cons_zero]; rfl) (by kernel_rfl) (by kernel_rfl) (by kernel_rfl) (by exact fun _ _ _ h => h) (Or.inl ⟨by rfl, ?y1b⟩) (by assumption) ?r1b)
              case y1b =>
                intro w hSw
                obtain ⟨⟨hs0, hs1, hs2, hs3⟩, -⟩ := hSw
                go_simp
                all_goals (with_reducible rfl)
              case r1b =>
                (try go_frame)
                refine wpAnyH_ready (rs := [2]) (by kernel_rfl) (by simp) ?_
                refine AllReadyH.cons (by simp only [List.getElem?_toArray, List.getElem?_cons_succ, List.getElem?_cons_zero]; rfl) (fun K hK => ?_) AllReadyH.nil
                go_simp
                (go_at_call 29; refine (CE.out _ (And.right (show HeldB w1.heap.size st P Q (.slice a ll.length cap) w5 _ by assumption))).mono ?_; rintro e wk ⟨rfl, yk⟩)
                refine hK.out _ _ ?_ (fun hHeld => ?_)
                · exact HeldB.more (by assumption) yk
                clear hK K
                (try go_frame)
                (refine wpAnyH_take (i := 3) (v := ?v3b) (by simp only [List.getElem?_toArray, List.getElem?_cons_succ, List.getElem?_cons_zero]; rfl) (by kernel_rfl) (by kernel_rfl) (by kernel_rfl) (by exact fun _ _ _ h => h) (Or.inl ⟨by rfl, ?y3b⟩) (by assumption) ?r3b)
                case y3b =>
                  intro w hSw
                  obtain ⟨⟨hs0, hs1, hs2, hs3⟩, -⟩ := hSw
                  go_simp
                  all_goals (with_reducible rfl)
                case r3b =>
                  (try go_frame)
                  (refine wpAnyH_take (i := 4) (v := ?v4b) (by simp only [List.getElem?_toArray, List.getElem?_cons_succ, List.getElem?_cons_zero]; rfl) (by kernel_rfl) (by kernel_rfl) (by kernel_rfl) (by exact fun _ _ _ h => h) (Or.inl ⟨by rfl, ?y4b⟩) (by assumption) ?r4b)
                  case y4b =>
                    intro w hSw
                    obtain ⟨⟨hs0, hs1, hs2, hs3⟩, -⟩ := hSw
                    go_simp
                    all_goals (with_reducible rfl)
                  case r4b =>
                    (try go_frame)
                    (refine wpAnyH_take (i := 5) (v := ?v5b) (by simp only [List.getElem?_toArray, List.getElem?_cons_succ, List.getElem?_cons_zero]; rfl) (by kernel_rfl) (by kernel_rfl) (by kernel_rfl) (by exact fun _ _ _ h => h) (Or.inl ⟨by rfl, ?y5b⟩) (by assumption) ?r5b)
                    case y5b =>
                      intro w hSw
                      obtain ⟨⟨hs0, hs1, hs2, hs3⟩, -⟩ := hSw
                      go_simp
                      all_goals (with_reducible rfl)
                    case r5b =>
                      (try go_frame)
                      (refine wpAnyH_take (i := 6) (v := ?v6b) (by simp only [List.getElem?_toArray, List.getElem?_cons_succ, List.getElem?_cons_zero]; rfl) (by kernel_rfl) (by kernel_rfl) (by kernel_rfl) (by exact fun _ _ _ h => h) (Or.inl ⟨by rfl, ?y6b⟩) (by assumption) ?r6b)
                      case y6b =>
                        intro w hSw
                        obtain ⟨⟨hs0, hs1, hs2, hs3⟩, -⟩ := hSw
                        go_simp
                        all_goals (with_reducible rfl)
                      case r6b =>
                        (try go_frame)
                        (refine wpAnyH_take (i := 8) (v := ?v8b) (by simp only [List.getElem?_toArray, List.getElem?_cons_succ, List.getElem?_cons_zero]; rfl) (by kernel_rfl) (by kernel_rfl) (by kernel_rfl) (by exact fun _ _ _ h => h) (Or.inl ⟨by rfl, ?y8b⟩) (by assumption) ?r8b)
                        case y8b =>
                          intro w hSw
                          obtain ⟨⟨hs0, hs1, hs2, hs3⟩, -⟩ := hSw
                          go_simp
                          all_goals (with_reducible rfl)
                        case r8b =>
                          (try go_frame)
                          (refine wpAnyH_take (i := 9) (v := ?v9b) (by simp only [List.getElem?_toArray, List.getElem?_cons_succ, List.getElem?_cons_zero]; rfl) (by kernel_rfl) (by kernel_rfl) (by kernel_rfl) (by exact fun _ _ _ h => h) (Or.inl ⟨by rfl, ?y9b⟩) (by assumption) ?r9b)
                          case y9b =>
                            intro w hSw
                            obtain ⟨⟨hs0, hs1, hs2, hs3⟩, -⟩ := hSw
                            go_simp
                            all_goals (with_reducible rfl)
                          case r9b =>
                            (try go_frame)
                            refine wpAnyH_ready (rs := [7]) (by kernel_rfl) (by simp) ?_
                            refine AllReadyH.cons (by simp only [List.getElem?_toArray, List.getElem?_cons_succ, List.getElem?_cons_zero]; rfl) (fun K hK => ?_) AllReadyH.nil
                            go_simp
                            (go_at_call 36; refine (CR8.out _ (And.right (show HeldB w1.heap.size st P Q (.slice a ll.length cap) w5 _ by assumption))).mono ?_; rintro e wk ⟨vr, rfl, or_, yk⟩; obtain ⟨ar, cr, rfl, ir⟩ := or_.shape; clear or_)
                            refine hK.out _ _ ?_ (fun hHeld => ?_)
                            · exact HeldB.more (by assumption) yk
                            clear hK K
                            (try go_frame)
                            refine wpAnyH_ready (rs := [10]) (by kernel_rfl) (by simp) ?_
                            refine AllReadyH.cons (by simp only [List.getElem?_toArray, List.getElem?_cons_succ, List.getElem?_cons_zero]; rfl) (fun K hK => ?_) AllReadyH.nil
                            go_simp
                            (go_at_call 36; refine (CR9.out _ (And.right (show HeldB w1.heap.size st P Q (.slice a ll.length cap) w5 _ by assumption))).mono ?_; rintro e wk ⟨vs, rfl, os_, yk⟩; obtain ⟨as_, cs, rfl, is_⟩ := os_.shape; replace ir := ir.ext yk; clear os_)
                            refine hK.out _ _ ?_ (fun hHeld => ?_)
                            · exact HeldB.more (by assumption) yk
                            clear hK K
                            (try go_frame)
                            refine wpAnyH_ready (rs := [11]) (by kernel_rfl) (by simp) ?_
                            refine AllReadyH.cons (by simp only [List.getElem?_toArray, List.getElem?_cons_succ, List.getElem?_cons_zero]; rfl) (fun K hK => ?_) AllReadyH.nil
                            go_simp
                            (go_at_call 32; refine (CS2.out _ ar cr as_ cs ir is_).mono ?_; rintro e wk ⟨rfl, yk⟩)
                            refine hK.out _ _ ?_ (fun hHeld => ?_)
                            · exact HeldB.more (by assumption) yk
                            clear hK K
                            (try go_frame)
                            (refine wpAnyH_take (i := 12) (v := ?v12b) (by simp only [List.getElem?_toArray, List.getElem?_cons_succ, List.getElem?_cons_zero]; rfl) (by kernel_rfl) (by kernel_rfl) (by kernel_rfl) (by exact fun _ _ _ h => h) (Or.inl ⟨by rfl, ?y12b⟩) (by assumption) ?r12b)
                            case y12b =>
                              intro w hSw
                              obtain ⟨⟨hs0, hs1, hs2, hs3⟩, -⟩ := hSw
                              go_simp
                              all_goals (with_reducible rfl)
                            case r12b =>
                              (try go_frame)
                              (refine wpAnyH_take (i := 13) (v := ?v13b) (by simp only [List.getElem?_toArray, List.getElem?_cons_succ, List.getElem?_cons_zero]; rfl) (by kernel_rfl) (by kernel_rfl) (by kernel_rfl) (by exact fun _ _ _ h => h) (Or.inl ⟨by rfl, ?y13b⟩) (by assumption) ?r13b)
                              case y13b =>
                                intro w hSw
                                obtain ⟨⟨hs0, hs1, hs2, hs3⟩, -⟩ := hSw
                                go_simp
                                all_goals (with_reducible rfl)
                              case r13b =>
                                (try go_frame)
                                refine wpAnyH_done (by kernel_rfl) ?_ _
                                have HE6 := Lib.hid (And.right (show HeldB w1.heap.size st P Q (.slice a ll.length cap) w5 _ by assumption))
                                clear CE CR8 CR9 CS2 ir is_ K0b
                                go_wp2
                                have K0c := HeldB.start HB5.out (show Ext w5 wk.drew from (HE6.out.trans (by (repeat (first | exact Ext.refl _ | assumption | refine Ext.alloc ?_ _ | refine Ext.drewN ?_ _ | refine Ext.drew ?_)))))
                                refine wp_region_held_drew (S := HeldB w1.heap.size st P Q (.slice a ll.length cap) w5) (by kernel_rfl) K0c (fun hHeld => ?_)
                                (refine wpAnyH_take (i := 0) (v := ?v0c) (by simp only [List.getElem?_toArray, List.getElem?_cons_zero]; rfl) (by kernel_rfl) (by kernel_rfl) (by kernel_rfl) (by exact fun _ _ _ h => h) (Or.inl ⟨by rfl, ?y0c⟩) (by assumption) ?r0c)
                                case y0c =>
                                  intro w hSw
                                  obtain ⟨⟨hs0, hs1, hs2, hs3⟩, -⟩ := hSw
                                  go_simp
                                  all_goals (with_reducible rfl)
                                case r0c =>
                                  (try go_frame)
                                  (refine wpAnyH_take (i := 1) (v := ?v1c) (by simp only [List.getElem?_toArray, List.getElem?_cons_succ, List.getElem?_cons_zero]; rfl) (by kernel_rfl) (by kernel_rfl) (by kernel_rfl) (by exact fun _ _ _ h => h) (Or.inl ⟨by rfl, ?y1c⟩) (by assumption) ?r1c)
                                  case y1c =>
                                    intro w hSw
                                    obtain ⟨⟨hs0, hs1, hs2, hs3⟩, -⟩ := hSw
                                    go_simp
                                    all_goals (with_reducible rfl)
                                  case r1c =>
                                    (try go_frame)
                                    (refine wpAnyH_take (i := 2) (v := ?v2c) (by simp only [List.getElem?_toArray, List.getElem?_cons_succ, List.getElem?_cons_zero]; rfl) (by kernel_rfl) (by kernel_rfl) (by kernel_rfl) (by exact fun _ _ _ h => h) (Or.inl ⟨by rfl, ?y2c⟩) (by assumption) ?r2c)
                                    case y2c =>
                                      intro w hSw
                                      obtain ⟨⟨hs0, hs1, hs2, hs3⟩, -⟩ := hSw
                                      go_simp
                                      all_goals (with_reducible rfl)
                                    case r2c =>
                                      (try go_frame)
                                      refine wpAnyH_ready (rs := [3]) (by kernel_rfl) (by simp) ?_
                                      refine AllReadyH.cons (by simp only [List.getElem?_toArray, List.getElem?_cons_succ, List.getElem?_cons_zero]; rfl) (fun K hK => ?_) AllReadyH.nil
                                      go_simp
                                      (go_at_call 34; refine (CV.out _ (And.right (show HeldB w1.heap.size st P Q (.slice a ll.length cap) w5 _ by assumption))).mono ?_; rintro e wk ⟨rfl, yk⟩)
                                      refine hK.out _ _ ?_ (fun hHeld => ?_)
                                      · exact HeldB.more (by assumption) yk
                                      clear hK K
                                      (try go_frame)
                                      (refine wpAnyH_take (i := 4) (v := ?v4c) (by simp only [List.getElem?_toArray, List.getElem?_cons_succ, List.getElem?_cons_zero]; rfl) (by kernel_rfl) (by kernel_rfl) (by kernel_rfl) (by exact fun _ _ _ h => h) (Or.inl ⟨by rfl, ?y4c⟩) (by assumption) ?r4c)
                                      case y4c =>
                                        intro w hSw
                                        obtain ⟨⟨hs0, hs1, hs2, hs3⟩, -⟩ := hSw
                                        go_simp
                                        all_goals (with_reducible rfl)
                                      case r4c =>
                                        (try go_frame)
                                        (refine wpAnyH_take (i := 5) (v := ?v5c) (by simp only [List.getElem?_toArray, List.getElem?_cons_succ, List.getElem?_cons_zero]; rfl) (by kernel_rfl) (by kernel_rfl) (by kernel_rfl) (by exact fun _ _ _ h => h) (Or.inl ⟨by rfl, ?y5c⟩) (by assumption) ?r5c)
                                        case y5c =>
                                          intro w hSw
                                          obtain ⟨⟨hs0, hs1, hs2, hs3⟩, -⟩ := hSw
                                          go_simp
                                          all_goals (with_reducible rfl)
                                        case r5c =>
                                          (try go_frame)
                                          (refine wpAnyH_take (i := 7) (v := ?v7c) (by simp only [List.getElem?_toArray, List.getElem?_cons_succ, List.getElem?_cons_zero]; rfl) (by kernel_rfl) (by kernel_rfl) (by kernel_rfl) (by exact fun _ _ _ h => h) (Or.inl ⟨by rfl, ?y7c⟩) (by assumption) ?r7c)
                                          case y7c =>
                                            intro w hSw
                                            obtain ⟨⟨hs0, hs1, hs2, hs3⟩, -⟩ := hSw
                                            go_simp
                                            all_goals (with_reducible rfl)
                                          case r7c =>
                                            (try go_frame)
                                            (refine wpAnyH_take (i := 10) (v := ?v10c) (by simp only [List.getElem?_toArray, List.getElem?_cons_succ, List.getElem?_cons_zero]; rfl) (by kernel_rfl) (by kernel_rfl) (by kernel_rfl) (by exact fun _ _ _ h => h) (Or.inl ⟨by rfl, ?y10c⟩) (by assumption) ?r10c)
                                            case y10c =>
                                              intro w hSw
                                              obtain ⟨⟨hs0, hs1, hs2, hs3⟩, -⟩ := hSw
                                              go_simp
                                              all_goals (with_reducible rfl)
                                            case r10c =>
                                              (try go_frame)
                                              (refine wpAnyH_take (i := 11) (v := ?v11c) (by simp only [List.getElem?_toArray, List.getElem?_cons_succ, List.getElem?_cons_zero]; rfl) (by kernel_rfl) (by kernel_rfl) (by kernel_rfl) (by exact fun _ _ _ h => h) (Or.inl ⟨by rfl, ?y11c⟩) (by assumption) ?r11c)
                                              case y11c =>
                                                intro w hSw
                                                obtain ⟨⟨hs0, hs1, hs2, hs3⟩, -⟩ := hSw
                                                go_simp
                                                all_goals (with_reducible rfl)
                                              case r11c =>
                                                (try go_frame)
                                                (refine wpAnyH_take (i := 12) (v := ?v12c) (by simp only [List.getElem?_toArray, List.getElem?_cons_succ, List.getElem?_cons_zero]; rfl) (by kernel_rfl) (by kernel_rfl) (by kernel_rfl) (by exact fun _ _ _ h => h) (Or.inl ⟨by rfl, ?y12c⟩) (by assumption) ?r12c)
                                                case y12c =>
                                                  intro w hSw
                                                  obtain ⟨⟨hs0, hs1, hs2, hs3⟩, -⟩ := hSw
                                                  go_simp
                                                  all_goals (with_reducible rfl)
                                                case r12c =>
                                                  (try go_frame)
                                                  refine wpAnyH_ready (rs := [6]) (by kernel_rfl) (by simp) ?_
                                                  refine AllReadyH.cons (by simp only [List.getElem?_toArray, List.getElem?_cons_succ, List.getElem?_cons_zero]; rfl) (fun K hK => ?_) AllReadyH.nil
                                                  go_simp
                                                  (go_at_call 48; refine (CM.out _ (And.right (show HeldB w1.heap.size st P Q (.slice a ll.length cap) w5 _ by assumption))).mono ?_; rintro e wk ⟨vm, rfl, om, yk⟩; obtain ⟨am, cm, rfl⟩ := om.shape; have im := om.rows; clear om)
                                                  refine hK.out _ _ ?_ (fun hHeld => ?_)
                                                  · exact HeldB.more (by assumption) yk
                                                  clear hK K
                                                  (try go_frame)
                                                  refine wpAnyH_ready (rs := [8]) (by kernel_rfl) (by simp) ?_
                                                  refine AllReadyH.cons (by simp only [List.getElem?_toArray, List.getElem?_cons_succ, List.getElem?_cons_zero]; rfl) (fun K hK => ?_) AllReadyH.nil
                                                  go_simp
                                                  (go_at_call 49; refine (CK.out _ (And.right (show HeldB w1.heap.size st P Q (.slice a ll.length cap) w5 _ by assumption))).mono ?_; rintro e wk ⟨vk, rfl, ok, yk⟩; obtain ⟨ak, ck, rfl, ik⟩ := ok.shape; replace im := im.ext yk; clear ok)
                                                  refine hK.out _ _ ?_ (fun hHeld => ?_)
                                                  · exact HeldB.more (by assumption) yk
                                                  clear hK K
                                                  (try go_frame)
                                                  refine wpAnyH_ready (rs := [9]) (by kernel_rfl) (by simp) ?_
                                                  refine AllReadyH.cons (by simp only [List.getElem?_toArray, List.getElem?_cons_succ, List.getElem?_cons_zero]; rfl) (fun K hK => ?_) AllReadyH.nil
                                                  go_simp
                                                  (go_at_call 36; refine (CRO.out _ am cm ak ck im ik).mono ?_; rintro e wk ⟨vr, rfl, or_, yk⟩; obtain ⟨ar, cr, rfl, ir⟩ := or_.shape; clear or_ im ik)
                                                  refine hK.out _ _ ?_ (fun hHeld => ?_)
                                                  · exact HeldB.more (by assumption) yk
                                                  clear hK K
                                                  (try go_frame)
                                                  refine wpAnyH_ready (rs := [13]) (by kernel_rfl) (by simp) ?_
                                                  refine AllReadyH.cons (by simp only [List.getElem?_toArray, List.getElem?_cons_succ, List.getElem?_cons_zero]; rfl) (fun K hK => ?_) AllReadyH.nil
                                                  go_simp
                                                  (go_at_call 50; refine (CB.out _ (And.right (show HeldB w1.heap.size st P Q (.slice a ll.length cap) w5 _ by assumption))).mono ?_; rintro e wk ⟨vb, rfl, ob, yk⟩; obtain ⟨ab, cb, rfl, ib⟩ := ob.shape; replace ir := ir.ext yk; clear ob)
                                                  refine hK.out _ _ ?_ (fun hHeld => ?_)
                                                  · exact HeldB.more (by assumption) yk
                                                  clear hK K
                                                  (try go_frame)
                                                  refine wpAnyH_ready (rs := [14]) (by kernel_rfl) (by simp) ?_
                                                  refine AllReadyH.cons (by simp only [List.getElem?_toArray, List.getElem?_cons_succ, List.getElem?_cons_zero]; rfl) (fun K hK => ?_) AllReadyH.nil
                                                  go_simp
                                                  (go_at_call 32; refine (CS.out _ ar cr ab cb ir ib).mono ?_; rintro e wk ⟨rfl, yk⟩)
                                                  refine hK.out _ _ ?_ (fun hHeld => ?_)
                                                  · exact HeldB.more (by assumption) yk
                                                  clear hK K
                                                  (try go_frame)
                                                  (refine wpAnyH_take (i := 15) (v := ?v15c) (by simp only [List.getElem?_toArray, List.getElem?_cons_succ, List.getElem?_cons_zero]; rfl) (by kernel_rfl) (by kernel_rfl) (by kernel_rfl) (by exact fun _ _ _ h => h) (Or.inl ⟨by rfl, ?y15c⟩) (by assumption) ?r15c)
                                                  case y15c =>
                                                    intro w hSw
                                                    obtain ⟨⟨hs0, hs1, hs2, hs3⟩, -⟩ := hSw
                                                    go_simp
                                                    all_goals (with_reducible rfl)
                                                  case r15c =>
                                                    (try go_frame)
                                                    (refine wpAnyH_take (i := 16) (v := ?v16c) (by simp only [List.getElem?_toArray, List.getElem?_cons_succ, List.getElem?_cons_zero]; rfl) (by kernel_rfl) (by kernel_rfl) (by kernel_rfl) (by exact fun _ _ _ h => h) (Or.inl ⟨by rfl, ?y16c⟩) (by assumption) ?r16c)
                                                    case y16c =>
                                                      intro w hSw
                                                      obtain ⟨⟨hs0, hs1, hs2, hs3⟩, -⟩ := hSw
                                                      go_simp
                                                      all_goals (with_reducible rfl)
                                                    case r16c =>
                                                      (try go_frame)
                                                      refine wpAnyH_done (by kernel_rfl) ?_ _
                                                      have HE := hx5.out.trans (And.right (show HeldB w1.heap.size st P Q (.slice a ll.length cap) w5 _ by assumption))
                                                      go_wp2
                                                      go_ret
                                                      exact ⟨rfl, HE⟩
        · have hne1 : (n == 1) = false := by simpa using hn1
          clear hn1
          as_aux_lemma =>
            go_wp2
            have k0 := cell_regrown (HB5.out.1)
            have k1 := cell_regrown (HB5.out.2.1)
            have k2 := cell_regrown (HB5.out.2.2.1)
            have k3' := cell_regrown (HB5.out.2.2.2)
            have cE' : ∀ d os, Calls Tryz.prog 29 #[.slice a8 E8.length c8, .slice a9 E9.length c9] (grow (redrawn w5 d) os) fun e w'' => e = .returned (.int .i64 n) ∧ ∃ p : Regrown, w'' = grow (redrawn w5 p.d) p.os := fun d os => Calls.regrown_of (CE.out _ (below_regrown w5 d os))
            clear CE CR8 CR9 CS2
            refine wp_region_below_lit (by kernel_rfl) (by kernel_rfl) ?_
            quiet_step (fail)
            repeat
              (with_reducible refine wpQuiet_step (fun K hK => ?_))
              go_simp
              first
                | (with_reducible refine hK _ ?_; clear hK K)
                | (apply Exists.intro
                   refine ⟨fun _ => ?_, hK _ ?_⟩
                   (go_at_call 29; with_reducible exact cE' _ _)
                   clear hK K)
            (with_reducible refine wpQuiet_nil ?_)
            intro _ hw'
            obtain ⟨⟨dq, osq⟩, hw''⟩ := hw'
            subst hw''
            have HE6 : Hid (Ext w5 (grow (redrawn w5 dq) osq)) := below_regrown w5 dq osq
            clear cE' k0 k1 k2 k3'
            generalize grow (redrawn w5 dq) osq = w6 at *
            go_wp2
            have K0d := HeldB.start HB5.out (show Ext w5 w6.drew from (HE6.out.trans (by (repeat (first | exact Ext.refl _ | assumption | refine Ext.alloc ?_ _ | refine Ext.drewN ?_ _ | refine Ext.drew ?_)))))
            refine wp_region_held_drew (S := HeldB w1.heap.size st P Q (.slice a ll.length cap) w5) (by kernel_rfl) K0d (fun hHeld => ?_)
            (refine wpAnyH_take (i := 0) (v := ?v0d) (by simp only [List.getElem?_toArray, List.getElem?_cons_zero]; rfl) (by kernel_rfl) (by kernel_rfl) (by kernel_rfl) (by exact fun _ _ _ h => h) (Or.inl ⟨by rfl, ?y0d⟩) (by assumption) ?r0d)
            case y0d =>
              intro w hSw
              obtain ⟨⟨hs0, hs1, hs2, hs3⟩, -⟩ := hSw
              go_simp
              all_goals (with_reducible rfl)
            case r0d =>
              (try go_frame)
              (refine wpAnyH_take (i := 1) (v := ?v1d) (by simp only [List.getElem?_toArray, List.getElem?_cons_succ, List.getElem?_cons_zero]; rfl) (by kernel_rfl) (by kernel_rfl) (by kernel_rfl) (by exact fun _ _ _ h => h) (Or.inl ⟨by rfl, ?y1d⟩) (by assumption) ?r1d)
              case y1d =>
                intro w hSw
                obtain ⟨⟨hs0, hs1, hs2, hs3⟩, -⟩ := hSw
                go_simp
                all_goals (with_reducible rfl)
              case r1d =>
                (try go_frame)
                (refine wpAnyH_take (i := 2) (v := ?v2d) (by simp only [List.getElem?_toArray, List.getElem?_cons_succ, List.getElem?_cons_zero]; rfl) (by kernel_rfl) (by kernel_rfl) (by kernel_rfl) (by exact fun _ _ _ h => h) (Or.inl ⟨by rfl, ?y2d⟩) (by assumption) ?r2d)
                case y2d =>
                  intro w hSw
                  obtain ⟨⟨hs0, hs1, hs2, hs3⟩, -⟩ := hSw
                  go_simp
                  all_goals (with_reducible rfl)
                case r2d =>
                  (try go_frame)
                  refine wpAnyH_ready (rs := [3]) (by kernel_rfl) (by simp) ?_
                  refine AllReadyH.cons (by simp only [List.getElem?_toArray, List.getElem?_cons_succ, List.getElem?_cons_zero]; rfl) (fun K hK => ?_) AllReadyH.nil
                  go_simp
                  (go_at_call 34; refine (CV.out _ (And.right (show HeldB w1.heap.size st P Q (.slice a ll.length cap) w5 _ by assumption))).mono ?_; rintro e wk ⟨rfl, yk⟩)
                  refine hK.out _ _ ?_ (fun hHeld => ?_)
                  · exact HeldB.more (by assumption) yk
                  clear hK K
                  (try go_frame)
                  (refine wpAnyH_take (i := 4) (v := ?v4d) (by simp only [List.getElem?_toArray, List.getElem?_cons_succ, List.getElem?_cons_zero]; rfl) (by kernel_rfl) (by kernel_rfl) (by kernel_rfl) (by exact fun _ _ _ h => h) (Or.inl ⟨by rfl, ?y4d⟩) (by assumption) ?r4d)
                  case y4d =>
                    intro w hSw
                    obtain ⟨⟨hs0, hs1, hs2, hs3⟩, -⟩ := hSw
                    go_simp
                    all_goals (with_reducible rfl)
                  case r4d =>
                    (try go_frame)
                    (refine wpAnyH_take (i := 5) (v := ?v5d) (by simp only [List.getElem?_toArray, List.getElem?_cons_succ, List.getElem?_cons_zero]; rfl) (by kernel_rfl) (by kernel_rfl) (by kernel_rfl) (by exact fun _ _ _ h => h) (Or.inl ⟨by rfl, ?y5d⟩) (by assumption) ?r5d)
                    case y5d =>
                      intro w hSw
                      obtain ⟨⟨hs0, hs1, hs2, hs3⟩, -⟩ := hSw
                      go_simp
                      all_goals (with_reducible rfl)
                    case r5d =>
                      (try go_frame)
                      (refine wpAnyH_take (i := 7) (v := ?v7d) (by simp only [List.getElem?_toArray, List.getElem?_cons_succ, List.getElem?_cons_zero]; rfl) (by kernel_rfl) (by kernel_rfl) (by kernel_rfl) (by exact fun _ _ _ h => h) (Or.inl ⟨by rfl, ?y7d⟩) (by assumption) ?r7d)
                      case y7d =>
                        intro w hSw
                        obtain ⟨⟨hs0, hs1, hs2, hs3⟩, -⟩ := hSw
                        go_simp
                        all_goals (with_reducible rfl)
                      case r7d =>
                        (try go_frame)
                        (refine wpAnyH_take (i := 10) (v := ?v10d) (by simp only [List.getElem?_toArray, List.getElem?_cons_succ, List.getElem?_cons_zero]; rfl) (by kernel_rfl) (by kernel_rfl) (by kernel_rfl) (by exact fun _ _ _ h => h) (Or.inl ⟨by rfl, ?y10d⟩) (by assumption) ?r10d)
                        case y10d =>
                          intro w hSw
                          obtain ⟨⟨hs0, hs1, hs2, hs3⟩, -⟩ := hSw
                          go_simp
                          all_goals (with_reducible rfl)
                        case r10d =>
                          (try go_frame)
                          (refine wpAnyH_take (i := 11) (v := ?v11d) (by simp only [List.getElem?_toArray, List.getElem?_cons_succ, List.getElem?_cons_zero]; rfl) (by kernel_rfl) (by kernel_rfl) (by kernel_rfl) (by exact fun _ _ _ h => h) (Or.inl ⟨by rfl, ?y11d⟩) (by assumption) ?r11d)
                          case y11d =>
                            intro w hSw
                            obtain ⟨⟨hs0, hs1, hs2, hs3⟩, -⟩ := hSw
                            go_simp
                            all_goals (with_reducible rfl)
                          case r11d =>
                            (try go_frame)
                            (refine wpAnyH_take (i := 12) (v := ?v12d) (by simp only [List.getElem?_toArray, List.getElem?_cons_succ, List.getElem?_cons_zero]; rfl) (by kernel_rfl) (by kernel_rfl) (by kernel_rfl) (by exact fun _ _ _ h => h) (Or.inl ⟨by rfl, ?y12d⟩) (by assumption) ?r12d)
                            case y12d =>
                              intro w hSw
                              obtain ⟨⟨hs0, hs1, hs2, hs3⟩, -⟩ := hSw
                              go_simp
                              all_goals (with_reducible rfl)
                            case r12d =>
                              (try go_frame)
                              refine wpAnyH_ready (rs := [6]) (by kernel_rfl) (by simp) ?_
                              refine AllReadyH.cons (by simp only [List.getElem?_toArray, List.getElem?_cons_succ, List.getElem?_cons_zero]; rfl) (fun K hK => ?_) AllReadyH.nil
                              go_simp
                              (go_at_call 48; refine (CM.out _ (And.right (show HeldB w1.heap.size st P Q (.slice a ll.length cap) w5 _ by assumption))).mono ?_; rintro e wk ⟨vm, rfl, om, yk⟩; obtain ⟨am, cm, rfl⟩ := om.shape; have im := om.rows; clear om)
                              refine hK.out _ _ ?_ (fun hHeld => ?_)
                              · exact HeldB.more (by assumption) yk
                              clear hK K
                              (try go_frame)
                              refine wpAnyH_ready (rs := [8]) (by kernel_rfl) (by simp) ?_
                              refine AllReadyH.cons (by simp only [List.getElem?_toArray, List.getElem?_cons_succ, List.getElem?_cons_zero]; rfl) (fun K hK => ?_) AllReadyH.nil
                              go_simp
                              (go_at_call 49; refine (CK.out _ (And.right (show HeldB w1.heap.size st P Q (.slice a ll.length cap) w5 _ by assumption))).mono ?_; rintro e wk ⟨vk, rfl, ok, yk⟩; obtain ⟨ak, ck, rfl, ik⟩ := ok.shape; replace im := im.ext yk; clear ok)
                              refine hK.out _ _ ?_ (fun hHeld => ?_)
                              · exact HeldB.more (by assumption) yk
                              clear hK K
                              (try go_frame)
                              refine wpAnyH_ready (rs := [9]) (by kernel_rfl) (by simp) ?_
                              refine AllReadyH.cons (by simp only [List.getElem?_toArray, List.getElem?_cons_succ, List.getElem?_cons_zero]; rfl) (fun K hK => ?_) AllReadyH.nil
                              go_simp
                              (go_at_call 36; refine (CRO.out _ am cm ak ck im ik).mono ?_; rintro e wk ⟨vr, rfl, or_, yk⟩; obtain ⟨ar, cr, rfl, ir⟩ := or_.shape; clear or_ im ik)
                              refine hK.out _ _ ?_ (fun hHeld => ?_)
                              · exact HeldB.more (by assumption) yk
                              clear hK K
                              (try go_frame)
                              refine wpAnyH_ready (rs := [13]) (by kernel_rfl) (by simp) ?_
                              refine AllReadyH.cons (by simp only [List.getElem?_toArray, List.getElem?_cons_succ, List.getElem?_cons_zero]; rfl) (fun K hK => ?_) AllReadyH.nil
                              go_simp
                              (go_at_call 50; refine (CB.out _ (And.right (show HeldB w1.heap.size st P Q (.slice a ll.length cap) w5 _ by assumption))).mono ?_; rintro e wk ⟨vb, rfl, ob, yk⟩; obtain ⟨ab, cb, rfl, ib⟩ := ob.shape; replace ir := ir.ext yk; clear ob)
                              refine hK.out _ _ ?_ (fun hHeld => ?_)
                              · exact HeldB.more (by assumption) yk
                              clear hK K
                              (try go_frame)
                              refine wpAnyH_ready (rs := [14]) (by kernel_rfl) (by simp) ?_
                              refine AllReadyH.cons (by simp only [List.getElem?_toArray, List.getElem?_cons_succ, List.getElem?_cons_zero]; rfl) (fun K hK => ?_) AllReadyH.nil
                              go_simp
                              (go_at_call 32; refine (CS.out _ ar cr ab cb ir ib).mono ?_; rintro e wk ⟨rfl, yk⟩)
                              refine hK.out _ _ ?_ (fun hHeld => ?_)
                              · exact HeldB.more (by assumption) yk
                              clear hK K
                              (try go_frame)
                              (refine wpAnyH_take (i := 15) (v := ?v15d) (by simp only [List.getElem?_toArray, List.getElem?_cons_succ, List.getElem?_cons_zero]; rfl) (by kernel_rfl) (by kernel_rfl) (by kernel_rfl) (by exact fun _ _ _ h => h) (Or.inl ⟨by rfl, ?y15d⟩) (by assumption) ?r15d)
                              case y15d =>
                                intro w hSw
                                obtain ⟨⟨hs0, hs1, hs2, hs3⟩, -⟩ := hSw
                                go_simp
                                all_goals (with_reducible rfl)
                              case r15d =>
                                (try go_frame)
                                (refine wpAnyH_take (i := 16) (v := ?v16d) (by simp only [List.getElem?_toArray, List.getElem?_cons_succ, List.getElem?_cons_zero]; rfl) (by kernel_rfl) (by kernel_rfl) (by kernel_rfl) (by exact fun _ _ _ h => h) (Or.inl ⟨by rfl, ?y16d⟩) (by assumption) ?r16d)
                                case y16d =>
                                  intro w hSw
                                  obtain ⟨⟨hs0, hs1, hs2, hs3⟩, -⟩ := hSw
                                  go_simp
                                  all_goals (with_reducible rfl)
                                case r16d =>
                                  (try go_frame)
                                  refine wpAnyH_done (by kernel_rfl) ?_ _
                                  have HE := hx5.out.trans (And.right (show HeldB w1.heap.size st P Q (.slice a ll.length cap) w5 _ by assumption))
                                  go_wp2
                                  go_ret
                                  exact ⟨rfl, HE⟩
    · go_enter Tryz.func9, Tryz.ntmps9
      go_wp2
      go_ret
      exact ⟨rfl, Ext.refl _⟩
  · go_enter Tryz.func9, Tryz.ntmps9
    go_wp2
    go_ret
    exact ⟨rfl, Ext.refl _⟩
end Go.Proofs.YtlaamecfknkmlaaGreat
