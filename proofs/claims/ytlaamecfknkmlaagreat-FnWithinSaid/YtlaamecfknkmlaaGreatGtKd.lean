/- Merged texts: contracts and plain lemmas (Kd). -/
import Derived.Test.YtlaamecfknkmlaaGreatGt3
import Derived.Deep.DeepCutAuto
import Derived.Deep.CutBlock
namespace Go.Proofs.YtlaamecfknkmlaaGreat
set_option linter.unusedVariables false
open Go.RowKit Go.Kt

set_option maxHeartbeats 1000000 in
theorem l20Leaf_c (g m : Nat) (w : World) (h : Rd w g m) (hm : m ≤ 90000) :
    Calls Tryz.prog 112 #[.pointer (some ⟨g, 0, none⟩)] w (DrewL w g (m + 11) 1) := by
  have hg := h.lt
  have HH := Lib.hid h
  clear h
  go_enter Tryz.func112, Tryz.ntmps112
  go_wp2_with fail
  refine (pick_c g m 3 _ (HH.out.ext (by (repeat (first | exact Ext.refl _ | assumption | refine Ext.alloc ?_ _ | refine Ext.drewN ?_ _ | refine Ext.drew ?_)))) (by omega)).mono ?_
  rintro e w1 ⟨x, rfl, hx, hr, ht⟩
  have H1 : Hid (WordSt w w1 g (m + 1) (.slice none 0 0) []) := ⟨hg, OwnI.nil _ _ _, hr, ht⟩
  have hz1 := ht.size
  clear hr ht
  by_cases h0 : x = 0
  · subst h0
    go_wp2_with fail
    refine (l20Test0_c g _ _ (H1.out.rd.ext (by (repeat (first | exact Ext.refl _ | assumption | refine Ext.alloc ?_ _ | refine Ext.drewN ?_ _ | refine Ext.drew ?_)))) (by omega)).mono ?_
    rintro e w2 ⟨t, rfl, ht15, hr2, ht2⟩
    have H2 := Lib.hid (H1.out.drawn (by (repeat (first | exact Ext.refl _ | assumption | refine Ext.alloc ?_ _ | refine Ext.drewN ?_ _ | refine Ext.drew ?_))) ht2 hr2)
    have hz2 := H2.out.tch.size
    clear hr2 ht2 ht15
    go_wp2
    go_ret
    exact (H2.out.other (by (repeat (first | exact Ext.refl _ | assumption | refine Ext.alloc ?_ _ | refine Ext.drewN ?_ _ | refine Ext.drew ?_))) (OwnI.lit1 _ _ _ _ (by first | omega | (simp; omega)))).drewL (by simp) (by omega)
  · have hxb : ((x : Int) == 0) = false := by simp; omega
    go_wp2_with fail
    refine (pick_c g _ 3 _ (H1.out.rd.ext (by (repeat (first | exact Ext.refl _ | assumption | refine Ext.alloc ?_ _ | refine Ext.drewN ?_ _ | refine Ext.drew ?_)))) (by omega)).mono ?_
    rintro e w2 ⟨y, rfl, hy, hr2, ht2⟩
    have H2 := Lib.hid (H1.out.drawn (by (repeat (first | exact Ext.refl _ | assumption | refine Ext.alloc ?_ _ | refine Ext.drewN ?_ _ | refine Ext.drew ?_))) ht2 hr2)
    have hz2 := H2.out.tch.size
    clear hr2 ht2
    go_wp2
    go_ret
    exact (H2.out.other (by (repeat (first | exact Ext.refl _ | assumption | refine Ext.alloc ?_ _ | refine Ext.drewN ?_ _ | refine Ext.drew ?_))) (OwnI.lit1 _ _ _ _ (by first | omega | (simp; omega)))).drewL (by simp) (by omega)
set_option maxRecDepth 100000 in
set_option maxHeartbeats 4000000 in
theorem l20Kat_c (g m p : Nat) (n : Int) (w : World) (h : Rd w g m) (hp : p ≤ 12) (hm : m ≤ 80000) :
    Calls Tryz.prog 123 #[.pointer (some ⟨g, 0, none⟩), .int .i64 (p : Int), .int .i64 n] w (DrewL w g (m + 160) 41) := by
  have hg := h.lt
  have HH := Lib.hid h
  clear h
  go_enter Tryz.func123, Tryz.ntmps123
  go_wp2_with fail
  refine (l20Leaf_c g m _ (HH.out.ext (by (repeat (first | exact Ext.refl _ | assumption | refine Ext.alloc ?_ _ | refine Ext.drewN ?_ _ | refine Ext.drew ?_)))) (by omega)).mono ?_
  rintro e w1 ⟨v1, L1, rfl, o1, hl1, hr, ht⟩
  have H1 : Hid (WordSt w w1 g (m + 11) v1 L1) := ⟨hg, o1, hr, ht⟩
  have hz1 := ht.size
  clear hr ht o1
  go_wp2_with fail
  refine (pick_c g _ _ _ (H1.out.rd.ext (by (repeat (first | exact Ext.refl _ | assumption | refine Ext.alloc ?_ _ | refine Ext.drewN ?_ _ | refine Ext.drew ?_)))) (by omega)).mono ?_
  rintro e w2 ⟨x2, rfl, hx2, hr2, ht2⟩
  have H2 := Lib.hid (H1.out.drawn (by (repeat (first | exact Ext.refl _ | assumption | refine Ext.alloc ?_ _ | refine Ext.drewN ?_ _ | refine Ext.drew ?_))) ht2 hr2)
  have hz2 := H2.out.tch.size
  have hxp : x2 ≤ p := by omega
  clear hr2 ht2 H1 hx2
  go_wp2
  go_loopw [7, 8] (fun v k wr => Hid (∃ (j : Nat) (L : List Int) (i : Nat), k = .int .i64 j ∧ i + j ≤ p ∧ L.length ≤ 40 ∧ WordSt w wr g (m + 12 + 12 * i) v L)) (fun _ k _ => (intOf k).toNat)
  case atStart => exact Lib.hid ⟨x2, L1, 0, rfl, by omega, by omega, H2.out.mono (by omega)⟩
  case round =>
    obtain ⟨j, L, i, rfl, hij, hL, hs⟩ := hrel.out
    clear hrel H2
    obtain ⟨av, cv, rfl⟩ := hs.shape
    have HS := Lib.hid hs
    clear hs
    have hwj : IntKind.i64.wrap ((j : Int) - 1) = (j : Int) - 1 := IntWalk.i64_in _ (by omega)
    by_cases hc : 0 < j ∧ L.length < 38
    · obtain ⟨hj0, hL38⟩ := hc
      go_wp2_with fail
      refine (pick_c g _ 6 _ (HS.out.rd.ext (by (repeat (first | exact Ext.refl _ | assumption | refine Ext.alloc ?_ _ | refine Ext.drewN ?_ _ | refine Ext.drew ?_)))) (by omega)).mono ?_
      rintro e w4 ⟨y, rfl, hy, hr4, ht4⟩
      have HS4 := Lib.hid (HS.out.drawn (by (repeat (first | exact Ext.refl _ | assumption | refine Ext.alloc ?_ _ | refine Ext.drewN ?_ _ | refine Ext.drew ?_))) ht4 hr4)
      have hz4 := HS4.out.tch.size
      clear HS hr4 ht4
      have hmi : Hid (∀ (w' : World) (v' : Value) (M : List Int), M.length ≤ 40 → WordSt w w' g (m + 12 + 12 * (i + 1)) v' M → ∃ (j' : Nat) (L' : List Int) (i' : Nat), Value.int .i64 ((j : Int) - 1) = .int .i64 j' ∧ i' + j' ≤ p ∧ L'.length ≤ 40 ∧ WordSt w w' g (m + 12 + 12 * i') v' L') := fun w' v' M hM hS =>
        ⟨j - 1, M, i + 1, by congr 1; omega, by omega, hM, hS⟩
      rcases (show y = 0 ∨ y = 1 ∨ y = 2 ∨ y = 3 ∨ 4 ≤ y by omega) with rfl | rfl | rfl | rfl | hy3
      · go_wp2_with (at_builtin; refine any_append_ints (by rfl) _ _ _ rfl (w.heap.size) 3 Tryz.underlying23 infoInt _ (_) rfl (HS4.out.own.ext (by (repeat (first | exact Ext.refl _ | assumption | refine Ext.alloc ?_ _ | refine Ext.drewN ?_ _ | refine Ext.drew ?_)))) _ _ ([21]) rfl (by first | exact (OwnI.lit1 _ _ _ _ (Nat.le_refl _)).ints | exact ((OwnI.lit1 _ _ _ _ (Nat.le_refl _)).ints).ext (by (repeat (first | exact Ext.refl _ | assumption | refine Ext.alloc ?_ _ | refine Ext.drewN ?_ _ | refine Ext.drew ?_)))) (by first | omega | (simp; omega)) (by first | omega | (simp; done) | (simp; omega)) ?_)
        intro v6 w6 o6 g6
        have HS6 := Lib.hid (HS4.out.more (by (repeat (first | exact Ext.refl _ | assumption | refine Ext.alloc ?_ _ | refine Ext.drewN ?_ _ | refine Ext.drew ?_))) (HS4.out.own.ext (by (repeat (first | exact Ext.refl _ | assumption | refine Ext.alloc ?_ _ | refine Ext.drewN ?_ _ | refine Ext.drew ?_)))) o6 g6)
        clear HS4 o6 g6
        go_wp2
        go_roundw
        case rel => exact Lib.hid (hmi.out _ _ _ (by first | omega | (simp; omega) | simp) (HS6.out.mono (by omega)))
        case measure => simp [intOf]; omega
      · go_wp2_with fail
        refine (l20Leaf_c g _ _ (HS4.out.rd.ext (by (repeat (first | exact Ext.refl _ | assumption | refine Ext.alloc ?_ _ | refine Ext.drewN ?_ _ | refine Ext.drew ?_)))) (by omega)).mono ?_
        rintro e w5 ⟨vk, Lk, rfl, ok, hlk, hr5, ht5⟩
        have HS5 := Lib.hid (HS4.out.drawn (by (repeat (first | exact Ext.refl _ | assumption | refine Ext.alloc ?_ _ | refine Ext.drewN ?_ _ | refine Ext.drew ?_))) ht5 hr5)
        obtain ⟨ak, ck, rfl, -⟩ := ok.shape
        have OS := Lib.hid (ok.ints)
        have hz5 := HS5.out.tch.size
        obtain ⟨L6, hL6, hl6⟩ := namedI (Lk ++ L ++ [19])
        simp only [List.length_append, List.length_cons, List.length_nil] at hl6
        have J : Hid (∀ w', Ext w5 w' → Calls Tryz.prog 113 #[.slice ak Lk.length ck, .slice av L.length cv, .int .i64 19] w' (RetI 3 w' L6)) := fun w' hx => by
          rw [hL6.out]; exact l2Join_c ak av ck cv Lk L 19 w' (OS.out.ext hx) (HS5.out.own.ints.ext hx) (by omega) (by omega)
        have hl6' : L6.length ≤ 40 := by omega
        clear HS4 hr5 ht5 ok hl6 hL6
        go_wp2_with fail
        refine (J.out _ (by (repeat (first | exact Ext.refl _ | assumption | refine Ext.alloc ?_ _ | refine Ext.drewN ?_ _ | refine Ext.drew ?_)))).mono ?_
        rintro e w6 ⟨v6, rfl, o6, y⟩
        have HS6 := Lib.hid (HS5.out.other y (o6.mono hz5))
        clear HS5 o6 y J OS
        go_wp2
        go_roundw
        case rel => exact Lib.hid (hmi.out _ _ _ hl6' (HS6.out.mono (by omega)))
        case measure => simp [intOf]; omega
      · go_wp2_with fail
        refine (l20Leaf_c g _ _ (HS4.out.rd.ext (by (repeat (first | exact Ext.refl _ | assumption | refine Ext.alloc ?_ _ | refine Ext.drewN ?_ _ | refine Ext.drew ?_)))) (by omega)).mono ?_
        rintro e w5 ⟨vk, Lk, rfl, ok, hlk, hr5, ht5⟩
        have HS5 := Lib.hid (HS4.out.drawn (by (repeat (first | exact Ext.refl _ | assumption | refine Ext.alloc ?_ _ | refine Ext.drewN ?_ _ | refine Ext.drew ?_))) ht5 hr5)
        obtain ⟨ak, ck, rfl, -⟩ := ok.shape
        have OS := Lib.hid (ok.ints)
        have hz5 := HS5.out.tch.size
        obtain ⟨L6, hL6, hl6⟩ := namedI (Lk ++ L ++ [20])
        simp only [List.length_append, List.length_cons, List.length_nil] at hl6
        have J : Hid (∀ w', Ext w5 w' → Calls Tryz.prog 113 #[.slice ak Lk.length ck, .slice av L.length cv, .int .i64 20] w' (RetI 3 w' L6)) := fun w' hx => by
          rw [hL6.out]; exact l2Join_c ak av ck cv Lk L 20 w' (OS.out.ext hx) (HS5.out.own.ints.ext hx) (by omega) (by omega)
        have hl6' : L6.length ≤ 40 := by omega
        clear HS4 hr5 ht5 ok hl6 hL6
        go_wp2_with fail
        refine (J.out _ (by (repeat (first | exact Ext.refl _ | assumption | refine Ext.alloc ?_ _ | refine Ext.drewN ?_ _ | refine Ext.drew ?_)))).mono ?_
        rintro e w6 ⟨v6, rfl, o6, y⟩
        have HS6 := Lib.hid (HS5.out.other y (o6.mono hz5))
        clear HS5 o6 y J OS
        go_wp2
        go_roundw
        case rel => exact Lib.hid (hmi.out _ _ _ hl6' (HS6.out.mono (by omega)))
        case measure => simp [intOf]; omega
      · go_wp2_with fail
        refine (l20Leaf_c g _ _ (HS4.out.rd.ext (by (repeat (first | exact Ext.refl _ | assumption | refine Ext.alloc ?_ _ | refine Ext.drewN ?_ _ | refine Ext.drew ?_)))) (by omega)).mono ?_
        rintro e w5 ⟨vk, Lk, rfl, ok, hlk, hr5, ht5⟩
        have HS5 := Lib.hid (HS4.out.drawn (by (repeat (first | exact Ext.refl _ | assumption | refine Ext.alloc ?_ _ | refine Ext.drewN ?_ _ | refine Ext.drew ?_))) ht5 hr5)
        obtain ⟨ak, ck, rfl, -⟩ := ok.shape
        have OS := Lib.hid (ok.ints)
        have hz5 := HS5.out.tch.size
        obtain ⟨L6, hL6, hl6⟩ := namedI (L ++ Lk ++ [20])
        simp only [List.length_append, List.length_cons, List.length_nil] at hl6
        have J : Hid (∀ w', Ext w5 w' → Calls Tryz.prog 113 #[.slice av L.length cv, .slice ak Lk.length ck, .int .i64 20] w' (RetI 3 w' L6)) := fun w' hx => by
          rw [hL6.out]; exact l2Join_c av ak cv ck L Lk 20 w' (HS5.out.own.ints.ext hx) (OS.out.ext hx) (by omega) (by omega)
        have hl6' : L6.length ≤ 40 := by omega
        clear HS4 hr5 ht5 ok hl6 hL6
        go_wp2_with fail
        refine (J.out _ (by (repeat (first | exact Ext.refl _ | assumption | refine Ext.alloc ?_ _ | refine Ext.drewN ?_ _ | refine Ext.drew ?_)))).mono ?_
        rintro e w6 ⟨v6, rfl, o6, y⟩
        have HS6 := Lib.hid (HS5.out.other y (o6.mono hz5))
        clear HS5 o6 y J OS
        go_wp2
        go_roundw
        case rel => exact Lib.hid (hmi.out _ _ _ hl6' (HS6.out.mono (by omega)))
        case measure => simp [intOf]; omega
      · have e0 : ((y : Int) == 0) = false := by simp; omega
        have e1 : ((y : Int) == 1) = false := by simp; omega
        have e2 : ((y : Int) == 2) = false := by simp; omega
        have e3 : ((y : Int) == 3) = false := by simp; omega
        go_wp2_with fail
        refine (l20Leaf_c g _ _ (HS4.out.rd.ext (by (repeat (first | exact Ext.refl _ | assumption | refine Ext.alloc ?_ _ | refine Ext.drewN ?_ _ | refine Ext.drew ?_)))) (by omega)).mono ?_
        rintro e w5 ⟨vk, Lk, rfl, ok, hlk, hr5, ht5⟩
        have HS5 := Lib.hid (HS4.out.drawn (by (repeat (first | exact Ext.refl _ | assumption | refine Ext.alloc ?_ _ | refine Ext.drewN ?_ _ | refine Ext.drew ?_))) ht5 hr5)
        obtain ⟨ak, ck, rfl, -⟩ := ok.shape
        have OS := Lib.hid (ok.ints)
        have hz5 := HS5.out.tch.size
        obtain ⟨L6, hL6, hl6⟩ := namedI (L ++ Lk ++ [19])
        simp only [List.length_append, List.length_cons, List.length_nil] at hl6
        have J : Hid (∀ w', Ext w5 w' → Calls Tryz.prog 113 #[.slice av L.length cv, .slice ak Lk.length ck, .int .i64 19] w' (RetI 3 w' L6)) := fun w' hx => by
          rw [hL6.out]; exact l2Join_c av ak cv ck L Lk 19 w' (HS5.out.own.ints.ext hx) (OS.out.ext hx) (by omega) (by omega)
        have hl6' : L6.length ≤ 40 := by omega
        clear HS4 hr5 ht5 ok hl6 hL6
        go_wp2_with fail
        refine (J.out _ (by (repeat (first | exact Ext.refl _ | assumption | refine Ext.alloc ?_ _ | refine Ext.drewN ?_ _ | refine Ext.drew ?_)))).mono ?_
        rintro e w6 ⟨v6, rfl, o6, y⟩
        have HS6 := Lib.hid (HS5.out.other y (o6.mono hz5))
        clear HS5 o6 y J OS
        go_wp2
        go_roundw
        case rel => exact Lib.hid (hmi.out _ _ _ hl6' (HS6.out.mono (by omega)))
        case measure => simp [intOf]; omega
    · have HM := Lib.hid (HS.out.mono (m' := m + 12 + 12 * p) (by omega))
      have hz0 := HM.out.tch.size
      have hq : m + 12 + 12 * p ≤ m + 156 := by omega
      clear HS hij
      by_cases hj0 : 0 < j
      all_goals
        try (have hL38 : ¬ L.length < 38 := fun h => hc ⟨hj0, h⟩)
        clear hc
        generalize m + 12 + 12 * p = q at *
        go_wp2_with fail
        refine (odd_c g _ n _ (HM.out.rd.ext (by (repeat (first | exact Ext.refl _ | assumption | refine Ext.alloc ?_ _ | refine Ext.drewN ?_ _ | refine Ext.drew ?_)))) (by omega)).mono ?_
        rintro e w5 ⟨od, rfl, hr5, ht5⟩
        have H5 := Lib.hid (HM.out.drawn (by (repeat (first | exact Ext.refl _ | assumption | refine Ext.alloc ?_ _ | refine Ext.drewN ?_ _ | refine Ext.drew ?_))) ht5 hr5)
        have hz5 := H5.out.tch.size
        clear HM hr5 ht5
        cases od
        · go_wp2
          go_ret
          exact (H5.out.ext (by (repeat (first | exact Ext.refl _ | assumption | refine Ext.alloc ?_ _ | refine Ext.drewN ?_ _ | refine Ext.drew ?_)))).drewL (by omega) (by omega)
        · go_wp2_with fail
          refine (pick_c g _ 5 _ (H5.out.rd.ext (by (repeat (first | exact Ext.refl _ | assumption | refine Ext.alloc ?_ _ | refine Ext.drewN ?_ _ | refine Ext.drew ?_)))) (by omega)).mono ?_
          rintro e w6 ⟨y, rfl, hy, hr6, ht6⟩
          have H6 := Lib.hid (H5.out.drawn (by (repeat (first | exact Ext.refl _ | assumption | refine Ext.alloc ?_ _ | refine Ext.drewN ?_ _ | refine Ext.drew ?_))) ht6 hr6)
          have hz6 := H6.out.tch.size
          clear H5 hr6 ht6
          rcases (show y = 0 ∨ y = 1 ∨ y = 2 ∨ y = 3 ∨ 4 ≤ y by omega) with rfl | rfl | rfl | rfl | hy3
          · go_wp2
            go_ret
            exact (H6.out.other (by (repeat (first | exact Ext.refl _ | assumption | refine Ext.alloc ?_ _ | refine Ext.drewN ?_ _ | refine Ext.drew ?_))) ((OwnI.empty _ _).mono (by first | omega | (simp; omega)))).drewL (by simp) (by omega)
          · go_wp2_with (at_builtin; refine any_append_ints (by rfl) _ _ _ rfl (w.heap.size) 3 Tryz.underlying23 infoInt _ (_) rfl (H6.out.own.ext (by (repeat (first | exact Ext.refl _ | assumption | refine Ext.alloc ?_ _ | refine Ext.drewN ?_ _ | refine Ext.drew ?_)))) _ _ ([16]) rfl (by first | exact (OwnI.lit1 _ _ _ _ (Nat.le_refl _)).ints | exact ((OwnI.lit1 _ _ _ _ (Nat.le_refl _)).ints).ext (by (repeat (first | exact Ext.refl _ | assumption | refine Ext.alloc ?_ _ | refine Ext.drewN ?_ _ | refine Ext.drew ?_)))) (by first | omega | (simp; omega)) (by first | omega | (simp; done) | (simp; omega)) ?_)
            intro v7 w7 o7 g7
            have H7 := Lib.hid (H6.out.more (by (repeat (first | exact Ext.refl _ | assumption | refine Ext.alloc ?_ _ | refine Ext.drewN ?_ _ | refine Ext.drew ?_))) (H6.out.own.ext (by (repeat (first | exact Ext.refl _ | assumption | refine Ext.alloc ?_ _ | refine Ext.drewN ?_ _ | refine Ext.drew ?_)))) o7 g7)
            clear H6 o7 g7
            go_wp2
            go_ret
            exact (H7.out.ext (by (repeat (first | exact Ext.refl _ | assumption | refine Ext.alloc ?_ _ | refine Ext.drewN ?_ _ | refine Ext.drew ?_)))).drewL (by simp; omega) (by omega)
          · go_wp2_with (at_builtin; refine any_append_ints (by rfl) _ _ _ rfl (w.heap.size) 3 Tryz.underlying23 infoInt _ ([20]) rfl (by first | exact OwnI.lit1 _ _ _ _ (by omega) | exact (OwnI.lit1 _ _ _ _ (by omega)).ext (by (repeat (first | exact Ext.refl _ | assumption | refine Ext.alloc ?_ _ | refine Ext.drewN ?_ _ | refine Ext.drew ?_)))) _ _ (L) rfl (H6.out.own.ints.ext (by (repeat (first | exact Ext.refl _ | assumption | refine Ext.alloc ?_ _ | refine Ext.drewN ?_ _ | refine Ext.drew ?_)))) (by first | omega | (simp; omega)) (by first | omega | (simp; done) | (simp; omega)) ?_)
            intro v7 w7 o7 g7
            have H7 := Lib.hid (H6.out.more (by (repeat (first | exact Ext.refl _ | assumption | refine Ext.alloc ?_ _ | refine Ext.drewN ?_ _ | refine Ext.drew ?_))) (OwnI.lit1 _ _ _ _ (by omega)) o7 g7)
            clear H6 o7 g7
            go_wp2
            go_ret
            exact (H7.out.ext (by (repeat (first | exact Ext.refl _ | assumption | refine Ext.alloc ?_ _ | refine Ext.drewN ?_ _ | refine Ext.drew ?_)))).drewL (by simp; omega) (by omega)
          · go_wp2_with fail
            refine (pick_c g _ 2 _ (H6.out.rd.ext (by (repeat (first | exact Ext.refl _ | assumption | refine Ext.alloc ?_ _ | refine Ext.drewN ?_ _ | refine Ext.drew ?_)))) (by omega)).mono ?_
            rintro e w7 ⟨z, rfl, hz, hr7, ht7⟩
            obtain ⟨u, hu⟩ := lit2 (-1) 22 z (by omega)
            have hcz := (World.cell?_of_block (a := ⟨w6.heap.size, z, none⟩) (ht7.block w6.heap.size (by simp) (.inr (by omega)))).trans ((cell_lit w6 _ 3 z).trans hu)
            have H7 := Lib.hid (H6.out.drawn (by (repeat (first | exact Ext.refl _ | assumption | refine Ext.alloc ?_ _ | refine Ext.drewN ?_ _ | refine Ext.drew ?_))) ht7 hr7)
            have hz7 := H7.out.tch.size
            have hz67 : w6.heap.size < w7.heap.size := by have := ht7.size; simp at this; omega
            have hz4 : (z : Int) < 2 := by omega
            clear H6 hr7 ht7 hu hz
            go_wp2_with (at_builtin; refine any_append_ints (by rfl) _ _ _ rfl (w.heap.size) 3 Tryz.underlying23 infoInt _ (_) rfl (H7.out.own.ext (by (repeat (first | exact Ext.refl _ | assumption | refine Ext.alloc ?_ _ | refine Ext.drewN ?_ _ | refine Ext.drew ?_)))) _ _ ([_]) rfl (by first | exact (OwnI.lit1 _ _ _ _ (Nat.le_refl _)).ints | exact ((OwnI.lit1 _ _ _ _ (Nat.le_refl _)).ints).ext (by (repeat (first | exact Ext.refl _ | assumption | refine Ext.alloc ?_ _ | refine Ext.drewN ?_ _ | refine Ext.drew ?_)))) (by first | omega | (simp; omega)) (by first | omega | (simp; done) | (simp; omega)) ?_)
            intro v8 w8 o8 g8
            have H8 := Lib.hid (H7.out.more (by (repeat (first | exact Ext.refl _ | assumption | refine Ext.alloc ?_ _ | refine Ext.drewN ?_ _ | refine Ext.drew ?_))) (H7.out.own.ext (by (repeat (first | exact Ext.refl _ | assumption | refine Ext.alloc ?_ _ | refine Ext.drewN ?_ _ | refine Ext.drew ?_)))) o8 g8)
            clear H7 o8 g8
            go_wp2
            go_ret
            exact (H8.out.ext (by (repeat (first | exact Ext.refl _ | assumption | refine Ext.alloc ?_ _ | refine Ext.drewN ?_ _ | refine Ext.drew ?_)))).drewL (by simp; omega) (by omega)
          · have e0 : ((y : Int) == 0) = false := by simp; omega
            have e1 : ((y : Int) == 1) = false := by simp; omega
            have e2 : ((y : Int) == 2) = false := by simp; omega
            have e3 : ((y : Int) == 3) = false := by simp; omega
            go_wp2
            go_loopw [7] (fun v wr => Hid (∃ (M : List Int), M.length ≤ 41 ∧ WordSt w wr g (q + 1 + 1) v M)) (fun v _ => 41 - (match v with | .slice _ n _ => n | _ => 0))
            case atStart => exact Lib.hid ⟨L, by omega, H6.out⟩
            case round =>
              obtain ⟨N, hN, hsN⟩ := hrel.out
              obtain ⟨an, cn, rfl⟩ := hsN.shape
              have HN := Lib.hid hsN
              have hzN := HN.out.tch.size
              clear hrel H6 hsN
              by_cases h16 : N.length ≤ 40
              · go_wp2_with (at_builtin; refine any_append_ints (by rfl) _ _ _ rfl (w.heap.size) 3 Tryz.underlying23 infoInt _ (_) rfl (HN.out.own.ext (by (repeat (first | exact Ext.refl _ | assumption | refine Ext.alloc ?_ _ | refine Ext.drewN ?_ _ | refine Ext.drew ?_)))) _ _ ([_]) rfl (by first | exact (OwnI.lit1 _ _ _ _ (Nat.le_refl _)).ints | exact ((OwnI.lit1 _ _ _ _ (Nat.le_refl _)).ints).ext (by (repeat (first | exact Ext.refl _ | assumption | refine Ext.alloc ?_ _ | refine Ext.drewN ?_ _ | refine Ext.drew ?_)))) (by first | omega | (simp; omega)) (by first | omega | (simp; done) | (simp; omega)) ?_)
                intro v7 w7 o7 g7
                have H7 := Lib.hid (HN.out.more (by (repeat (first | exact Ext.refl _ | assumption | refine Ext.alloc ?_ _ | refine Ext.drewN ?_ _ | refine Ext.drew ?_))) (HN.out.own.ext (by (repeat (first | exact Ext.refl _ | assumption | refine Ext.alloc ?_ _ | refine Ext.drewN ?_ _ | refine Ext.drew ?_)))) o7 g7)
                obtain ⟨L7, hL7, hl7⟩ := namedI (N ++ [21])
                rw [← hL7.out] at o7 H7
                rw [List.length_append] at hl7
                have hl7' : L7.length = N.length + 1 := by rw [hl7]; rfl
                obtain ⟨a7, c7, rfl⟩ := H7.out.shape
                have HL7 := Lib.hid hl7'
                clear HN o7 g7 hl7 hl7'
                go_wp2
                go_roundw
                case rel => exact Lib.hid ⟨L7, by have := HL7.out; omega, H7.out.ext (by (repeat (first | exact Ext.refl _ | assumption | refine Ext.alloc ?_ _ | refine Ext.drewN ?_ _ | refine Ext.drew ?_)))⟩
                case measure => have := HL7.out; simp; omega
              · go_wp2
                go_ret
                exact (HN.out.ext (by (repeat (first | exact Ext.refl _ | assumption | refine Ext.alloc ?_ _ | refine Ext.drewN ?_ _ | refine Ext.drew ?_)))).drewL (by omega) (by omega)
theorem own_lenI {w : World} {B E cap n : Nat} {a : Option Addr} {l : List Int} (hn : l.length = n) (h : OwnI w B E (.slice a n cap) l) : IntsAt w a l := h.ints
/-- How many picks drawing a program's expression takes at most. -/
def kwl : Nat → Nat
  | 0 => 90
  | d + 1 => 4 * kwl d + 90
set_option maxRecDepth 100000 in
set_option maxHeartbeats 1000000 in
theorem l20While_step (d g m b : Nat) (w : World) (h : Rd w g m) (hb : 4 * b + 90 ≤ kwl d) (hm : m + kwl d ≤ 80000) (hd : d ≤ 10)
    (ih : 0 < d → ∀ (m : Nat) (w : World), Rd w g m → m + b ≤ 80000 → Calls Tryz.prog 165 #[.pointer (some ⟨g, 0, none⟩), .int .i64 ((d : Int) - 1)] w (DrewL w g (m + b) 40)) :
    Calls Tryz.prog 165 #[.pointer (some ⟨g, 0, none⟩), .int .i64 (d : Int)] w (DrewL w g (m + kwl d) 40) := by
  have hg := h.lt
  have HH := Lib.hid h
  have IH := Lib.hid ih
  clear h ih
  go_enter Tryz.func165, Tryz.ntmps165
  go_wp2_with fail
  refine (pick_c g m 3 _ (HH.out.ext (by (repeat (first | exact Ext.refl _ | assumption | refine Ext.alloc ?_ _ | refine Ext.drewN ?_ _ | refine Ext.drew ?_)))) (by omega)).mono ?_
  rintro e w1 ⟨x1, rfl, hx1, hr1, ht1⟩
  have H1 : Hid (WordSt w w1 g (m + 1) (.slice none 0 0) []) := ⟨hg, OwnI.nil _ _ _, hr1, ht1⟩
  have hz1 := ht1.size
  clear hr1 ht1
  go_wp2_with fail
  refine (pick_c g _ 2 _ (H1.out.rd.ext (by (repeat (first | exact Ext.refl _ | assumption | refine Ext.alloc ?_ _ | refine Ext.drewN ?_ _ | refine Ext.drew ?_)))) (by omega)).mono ?_
  rintro e w2 ⟨x2, rfl, hx2, hr2, ht2⟩
  have hz2 := ht2.size
  have H2 := Lib.hid ((H1.out.other (by (repeat (first | exact Ext.refl _ | assumption | refine Ext.alloc ?_ _ | refine Ext.drewN ?_ _ | refine Ext.drew ?_))) (OwnI.lit1 _ _ _ (16 + (x1 : Int)) hz1)).drawn (Ext.refl _) ht2 hr2)
  simp only [World.size_alloc] at hz2
  clear hr2 ht2 H1
  go_wp2
  go_loopw [5, 6] (fun v k wr => Hid (∃ (j : Nat) (L : List Int) (i : Nat), k = .int .i64 j ∧ i + j ≤ 2 ∧ L.length ≤ 40 ∧ WordSt w wr g (m + 2 + i * (2 * b + 40)) v L)) (fun _ k _ => (intOf k).toNat)
  case atStart => exact Lib.hid ⟨1 + x2, [16 + (x1 : Int)], 0, by go_num, by omega, by simp, H2.out.mono (by omega)⟩
  case round =>
    obtain ⟨j, L, i, rfl, hij, hL, hs⟩ := hrel.out
    clear hrel H2
    obtain ⟨av, cv, rfl⟩ := hs.shape
    have HS := Lib.hid hs
    clear hs
    have hwj : IntKind.i64.wrap ((j : Int) - 1) = (j : Int) - 1 := IntWalk.i64_in _ (by omega)
    by_cases hj0 : 0 < j
    · have hib : i * (2 * b + 40) ≤ 2 * b + 40 := by
        have := Nat.mul_le_mul_right (2 * b + 40) (show i ≤ 1 by omega); omega
      have hmi : Hid (∀ (w' : World) (v' : Value) (M : List Int), M.length ≤ 40 → WordSt w w' g (m + 2 + i * (2 * b + 40) + (2 * b + 40)) v' M → ∃ (j' : Nat) (L' : List Int) (i' : Nat), Value.int .i64 ((j : Int) - 1) = .int .i64 j' ∧ i' + j' ≤ 2 ∧ L'.length ≤ 40 ∧ WordSt w w' g (m + 2 + i' * (2 * b + 40)) v' L') := fun w' v' M hM hS =>
        ⟨j - 1, M, i + 1, by congr 1; omega, by omega, hM, hS.mono (by rw [Nat.add_mul, Nat.one_mul]; omega)⟩
      generalize i * (2 * b + 40) = q at *
      go_wp2_with fail
      refine (pick_c g _ 3 _ (HS.out.rd.ext (by (repeat (first | exact Ext.refl _ | assumption | refine Ext.alloc ?_ _ | refine Ext.drewN ?_ _ | refine Ext.drew ?_)))) (by omega)).mono ?_
      rintro e w3 ⟨x3, rfl, hx3, hr3, ht3⟩
      have HS3 := Lib.hid (HS.out.drawn (by (repeat (first | exact Ext.refl _ | assumption | refine Ext.alloc ?_ _ | refine Ext.drewN ?_ _ | refine Ext.drew ?_))) ht3 hr3)
      clear HS hr3 ht3
      have hz3 := HS3.out.tch.size
      go_upto_block 2 with fail
      go_cut [7] (fun v wx => Hid (∃ (n : Nat) (N : List Int) (an : Option Addr) (cn : Nat), v = .slice an n cn ∧ Hid (N.length = n) ∧ n ≤ 40 ∧ OwnI wx w.heap.size 3 (.slice an n cn) N ∧ WordSt w wx g (m + 2 + q + 2 * b + 20) (.slice av L.length cv) L))
      case first =>
        have OF := Lib.hid (OwnI.lit1 w3 w.heap.size 3 (16 + (x3 : Int)) hz3)
        by_cases hd0 : 0 < d
        · have hcall := IH.out hd0
          have HC := Lib.hid hcall
          have hwd : IntKind.i64.wrap ((d : Int) - 1) = (d : Int) - 1 := IntWalk.i64_in _ (by omega)
          clear hcall
          go_wp2_with fail
          refine (pick_c g _ 3 _ (HS3.out.rd.ext (by (repeat (first | exact Ext.refl _ | assumption | refine Ext.alloc ?_ _ | refine Ext.drewN ?_ _ | refine Ext.drew ?_)))) (by omega)).mono ?_
          rintro e w4 ⟨y1, rfl, hy1, hr4, ht4⟩
          have HS4 := Lib.hid (HS3.out.drawn (by (repeat (first | exact Ext.refl _ | assumption | refine Ext.alloc ?_ _ | refine Ext.drewN ?_ _ | refine Ext.drew ?_))) ht4 hr4)
          have OF4 := Lib.hid (OwnI.drawn OF.out ht4 hg)
          have hz4 := HS4.out.tch.size
          clear HS3 OF hr4 ht4
          by_cases h1 : y1 = 0
          · subst h1
            go_wp2_with fail
            refine (l20Test0_c g _ _ (HS4.out.rd.ext (by (repeat (first | exact Ext.refl _ | assumption | refine Ext.alloc ?_ _ | refine Ext.drewN ?_ _ | refine Ext.drew ?_)))) (by omega)).mono ?_
            rintro e w5 ⟨t, rfl, -, hr5, ht5⟩
            have HS5 := Lib.hid (HS4.out.drawn (by (repeat (first | exact Ext.refl _ | assumption | refine Ext.alloc ?_ _ | refine Ext.drewN ?_ _ | refine Ext.drew ?_))) ht5 hr5)
            have OF5 := Lib.hid (OwnI.drawn (OF4.out.ext (by (repeat (first | exact Ext.refl _ | assumption | refine Ext.alloc ?_ _ | refine Ext.drewN ?_ _ | refine Ext.drew ?_)))) ht5 hg)
            have hz5 := HS5.out.tch.size
            clear HS4 OF4 hr5 ht5
            go_wp2_with fail
            refine (HC.out _ _ (HS5.out.rd.ext (by (repeat (first | exact Ext.refl _ | assumption | refine Ext.alloc ?_ _ | refine Ext.drewN ?_ _ | refine Ext.drew ?_)))) (by omega)).mono ?_
            rintro e w6 ⟨v6, N6, rfl, o6, hl6, hr6, ht6⟩
            have HS6 := Lib.hid (HS5.out.drawn (by (repeat (first | exact Ext.refl _ | assumption | refine Ext.alloc ?_ _ | refine Ext.drewN ?_ _ | refine Ext.drew ?_))) ht6 hr6)
            have OF6 := Lib.hid (OwnI.drawn (OF5.out.ext (by (repeat (first | exact Ext.refl _ | assumption | refine Ext.alloc ?_ _ | refine Ext.drewN ?_ _ | refine Ext.drew ?_)))) ht6 hg)
            obtain ⟨a6, c6, rfl, -⟩ := o6.shape
            have O6 := Lib.hid o6
            have hz6 := HS6.out.tch.size
            have hg6 : g < w5.heap.size := by omega
            clear HS5 OF5 hr6 ht6 o6
            go_wp2_with fail
            refine (HC.out _ _ (HS6.out.rd.ext (by (repeat (first | exact Ext.refl _ | assumption | refine Ext.alloc ?_ _ | refine Ext.drewN ?_ _ | refine Ext.drew ?_)))) (by omega)).mono ?_
            rintro e w7 ⟨v7, N7, rfl, o7, hl7, hr7, ht7⟩
            have HS7 := Lib.hid (HS6.out.drawn (by (repeat (first | exact Ext.refl _ | assumption | refine Ext.alloc ?_ _ | refine Ext.drewN ?_ _ | refine Ext.drew ?_))) ht7 hr7)
            have OF7 := Lib.hid (OwnI.drawn (OF6.out.ext (by (repeat (first | exact Ext.refl _ | assumption | refine Ext.alloc ?_ _ | refine Ext.drewN ?_ _ | refine Ext.drew ?_)))) ht7 hg)
            have O67 := Lib.hid (OwnI.drawn (O6.out.ext (by (repeat (first | exact Ext.refl _ | assumption | refine Ext.alloc ?_ _ | refine Ext.drewN ?_ _ | refine Ext.drew ?_)))) ht7 hg6)
            obtain ⟨a7, c7, rfl, -⟩ := o7.shape
            have O7 := Lib.hid o7
            have hz7 := HS7.out.tch.size
            have KF : Hid (∀ w', Ext w7 w' → Calls Tryz.prog 180 #[.int .i64 t, .slice a6 N6.length c6, .slice a7 N7.length c7] w' (RetV w' (inB t 0 15 && kvB N6 && kvB N7 && kvB ([t] ++ N6 ++ [19] ++ ([15 - t] ++ N7 ++ [19]) ++ [20])) ([t] ++ N6 ++ [19] ++ ([15 - t] ++ N7 ++ [19]) ++ [20]))) := fun w' hx => sKatIf_c t a6 a7 c6 c7 N6 N7 w' (O67.out.ints.ext hx) (O7.out.ints.ext hx) (by omega) (by omega)
            have hk40 : Hid ((inB t 0 15 && kvB N6 && kvB N7 && kvB ([t] ++ N6 ++ [19] ++ ([15 - t] ++ N7 ++ [19]) ++ [20])) = true → ([t] ++ N6 ++ [19] ++ ([15 - t] ++ N7 ++ [19]) ++ [20]).length ≤ 40) := fun h => (kvB_len (by rw [Bool.and_eq_true] at h; exact h.2)).2
            obtain ⟨M, hM, -⟩ := namedI ([t] ++ N6 ++ [19] ++ ([15 - t] ++ N7 ++ [19]) ++ [20])
            rw [← hM.out] at KF hk40
            clear HS6 OF6 O6 hr7 ht7 o7 O67 O7 hM
            generalize (inB t 0 15 && kvB N6 && kvB N7 && kvB M) = bb at KF hk40
            go_wp2_with fail
            refine (KF.out _ (by (repeat (first | exact Ext.refl _ | assumption | refine Ext.alloc ?_ _ | refine Ext.drewN ?_ _ | refine Ext.drew ?_)))).mono ?_
            rintro e w8 ⟨v8, rfl, o8, y8⟩
            have hy8 := Lib.hid (Ext.trans (by (repeat (first | exact Ext.refl _ | assumption | refine Ext.alloc ?_ _ | refine Ext.drewN ?_ _ | refine Ext.drew ?_))) y8)
            have OM := Lib.hid (o8.mono (B' := w.heap.size) (by first | omega | (simp; omega)))
            obtain ⟨a8, c8, rfl, -⟩ := o8.shape
            clear KF y8 o8
            cases bb
            · go_wp2
              go_meet
              case rel => exact Lib.hid ⟨1, [16 + (x3 : Int)], _, _, rfl, rfl, by omega, OF7.out.ext (hy8.out.trans (by (repeat (first | exact Ext.refl _ | assumption | refine Ext.alloc ?_ _ | refine Ext.drewN ?_ _ | refine Ext.drew ?_)))), (HS7.out.ext (hy8.out.trans (by (repeat (first | exact Ext.refl _ | assumption | refine Ext.alloc ?_ _ | refine Ext.drewN ?_ _ | refine Ext.drew ?_))))).mono (by omega)⟩
            · have hMl := hk40.out rfl
              have hkl : Hid (keepL true M = M) := rfl
              go_wp2
              go_meet
              case rel => exact Lib.hid ⟨_, _, _, _, rfl, rfl, by rw [hkl.out]; exact hMl, OM.out.ext (by (repeat (first | exact Ext.refl _ | assumption | refine Ext.alloc ?_ _ | refine Ext.drewN ?_ _ | refine Ext.drew ?_))), (HS7.out.ext (hy8.out.trans (by (repeat (first | exact Ext.refl _ | assumption | refine Ext.alloc ?_ _ | refine Ext.drewN ?_ _ | refine Ext.drew ?_))))).mono (by omega)⟩
          · have hyb : ((y1 : Int) == 0) = false := by simp; omega
            go_wp2_with fail
            refine (pick_c g _ 2 _ (HS4.out.rd.ext (by (repeat (first | exact Ext.refl _ | assumption | refine Ext.alloc ?_ _ | refine Ext.drewN ?_ _ | refine Ext.drew ?_)))) (by omega)).mono ?_
            rintro e w5 ⟨y2, rfl, hy2, hr5, ht5⟩
            have HS5 := Lib.hid (HS4.out.drawn (by (repeat (first | exact Ext.refl _ | assumption | refine Ext.alloc ?_ _ | refine Ext.drewN ?_ _ | refine Ext.drew ?_))) ht5 hr5)
            have OF5 := Lib.hid (OwnI.drawn (OF4.out.ext (by (repeat (first | exact Ext.refl _ | assumption | refine Ext.alloc ?_ _ | refine Ext.drewN ?_ _ | refine Ext.drew ?_)))) ht5 hg)
            have hz5 := HS5.out.tch.size
            clear HS4 OF4 hr5 ht5
            by_cases h2 : y2 = 0
            · subst h2
              go_wp2_with fail
              refine (l20Test0_c g _ _ (HS5.out.rd.ext (by (repeat (first | exact Ext.refl _ | assumption | refine Ext.alloc ?_ _ | refine Ext.drewN ?_ _ | refine Ext.drew ?_)))) (by omega)).mono ?_
              rintro e w6 ⟨t, rfl, -, hr6, ht6⟩
              have HS6 := Lib.hid (HS5.out.drawn (by (repeat (first | exact Ext.refl _ | assumption | refine Ext.alloc ?_ _ | refine Ext.drewN ?_ _ | refine Ext.drew ?_))) ht6 hr6)
              have OF6 := Lib.hid (OwnI.drawn (OF5.out.ext (by (repeat (first | exact Ext.refl _ | assumption | refine Ext.alloc ?_ _ | refine Ext.drewN ?_ _ | refine Ext.drew ?_)))) ht6 hg)
              have hz6 := HS6.out.tch.size
              clear HS5 OF5 hr6 ht6
              go_wp2_with fail
              refine (HC.out _ _ (HS6.out.rd.ext (by (repeat (first | exact Ext.refl _ | assumption | refine Ext.alloc ?_ _ | refine Ext.drewN ?_ _ | refine Ext.drew ?_)))) (by omega)).mono ?_
              rintro e w7 ⟨v7, N7, rfl, o7, hl7, hr7, ht7⟩
              have HS7 := Lib.hid (HS6.out.drawn (by (repeat (first | exact Ext.refl _ | assumption | refine Ext.alloc ?_ _ | refine Ext.drewN ?_ _ | refine Ext.drew ?_))) ht7 hr7)
              have OF7 := Lib.hid (OwnI.drawn (OF6.out.ext (by (repeat (first | exact Ext.refl _ | assumption | refine Ext.alloc ?_ _ | refine Ext.drewN ?_ _ | refine Ext.drew ?_)))) ht7 hg)
              obtain ⟨a7, c7, rfl, -⟩ := o7.shape
              have O7 := Lib.hid o7
              have hz7 := HS7.out.tch.size
              have KF : Hid (∀ w', Ext w7 w' → Calls Tryz.prog 114 #[.int .i64 t, .slice a7 N7.length c7] w' (RetV w' (inB t 0 15 && kvB N7 && kvB ([t] ++ N7 ++ [19] ++ [21] ++ [15 - t] ++ [19])) ([t] ++ N7 ++ [19] ++ [21] ++ [15 - t] ++ [19]))) := fun w' hx => sKatWhile_c t a7 c7 N7 w' (O7.out.ints.ext hx) (by omega)
              have hk40 : Hid ((inB t 0 15 && kvB N7 && kvB ([t] ++ N7 ++ [19] ++ [21] ++ [15 - t] ++ [19])) = true → ([t] ++ N7 ++ [19] ++ [21] ++ [15 - t] ++ [19]).length ≤ 40) := fun h => (kvB_len (by rw [Bool.and_eq_true] at h; exact h.2)).2
              obtain ⟨M, hM, -⟩ := namedI ([t] ++ N7 ++ [19] ++ [21] ++ [15 - t] ++ [19])
              rw [← hM.out] at KF hk40
              clear HS6 OF6 hr7 ht7 o7 O7 hM
              generalize (inB t 0 15 && kvB N7 && kvB M) = bb at KF hk40
              go_wp2_with fail
              refine (KF.out _ (by (repeat (first | exact Ext.refl _ | assumption | refine Ext.alloc ?_ _ | refine Ext.drewN ?_ _ | refine Ext.drew ?_)))).mono ?_
              rintro e w8 ⟨v8, rfl, o8, y8⟩
              have hy8 := Lib.hid (Ext.trans (by (repeat (first | exact Ext.refl _ | assumption | refine Ext.alloc ?_ _ | refine Ext.drewN ?_ _ | refine Ext.drew ?_))) y8)
              have OM := Lib.hid (o8.mono (B' := w.heap.size) (by first | omega | (simp; omega)))
              obtain ⟨a8, c8, rfl, -⟩ := o8.shape
              clear KF y8 o8
              cases bb
              · go_wp2
                go_meet
                case rel => exact Lib.hid ⟨1, [16 + (x3 : Int)], _, _, rfl, rfl, by omega, OF7.out.ext (hy8.out.trans (by (repeat (first | exact Ext.refl _ | assumption | refine Ext.alloc ?_ _ | refine Ext.drewN ?_ _ | refine Ext.drew ?_)))), (HS7.out.ext (hy8.out.trans (by (repeat (first | exact Ext.refl _ | assumption | refine Ext.alloc ?_ _ | refine Ext.drewN ?_ _ | refine Ext.drew ?_))))).mono (by omega)⟩
              · have hMl := hk40.out rfl
                have hkl : Hid (keepL true M = M) := rfl
                go_wp2
                go_meet
                case rel => exact Lib.hid ⟨_, _, _, _, rfl, rfl, by rw [hkl.out]; exact hMl, OM.out.ext (by (repeat (first | exact Ext.refl _ | assumption | refine Ext.alloc ?_ _ | refine Ext.drewN ?_ _ | refine Ext.drew ?_))), (HS7.out.ext (hy8.out.trans (by (repeat (first | exact Ext.refl _ | assumption | refine Ext.alloc ?_ _ | refine Ext.drewN ?_ _ | refine Ext.drew ?_))))).mono (by omega)⟩
            · have hyb2 : ((y2 : Int) == 0) = false := by simp; omega
              go_wp2_with fail
              refine (pick_c g _ 4 _ (HS5.out.rd.ext (by (repeat (first | exact Ext.refl _ | assumption | refine Ext.alloc ?_ _ | refine Ext.drewN ?_ _ | refine Ext.drew ?_)))) (by omega)).mono ?_
              rintro e w6 ⟨y3, rfl, hy3, hr6, ht6⟩
              have HS6 := Lib.hid (HS5.out.drawn (by (repeat (first | exact Ext.refl _ | assumption | refine Ext.alloc ?_ _ | refine Ext.drewN ?_ _ | refine Ext.drew ?_))) ht6 hr6)
              have OF6 := Lib.hid (OwnI.drawn (OF5.out.ext (by (repeat (first | exact Ext.refl _ | assumption | refine Ext.alloc ?_ _ | refine Ext.drewN ?_ _ | refine Ext.drew ?_)))) ht6 hg)
              have hz6 := HS6.out.tch.size
              clear HS5 OF5 hr6 ht6
              by_cases h3 : y3 = 0
              · subst h3
                go_wp2
                go_meet
                case rel => exact Lib.hid ⟨1, [15], _, _, rfl, rfl, by omega, OwnI.lit1 _ _ _ _ (by first | omega | (simp; omega)), (HS6.out.ext (by (repeat (first | exact Ext.refl _ | assumption | refine Ext.alloc ?_ _ | refine Ext.drewN ?_ _ | refine Ext.drew ?_)))).mono (by omega)⟩
              · have hyb3 : ((y3 : Int) == 0) = false := by simp; omega
                go_wp2
                go_meet
                case rel => exact Lib.hid ⟨1, [16 + (x3 : Int)], _, _, rfl, rfl, by omega, OF6.out.ext (by (repeat (first | exact Ext.refl _ | assumption | refine Ext.alloc ?_ _ | refine Ext.drewN ?_ _ | refine Ext.drew ?_))), (HS6.out.ext (by (repeat (first | exact Ext.refl _ | assumption | refine Ext.alloc ?_ _ | refine Ext.drewN ?_ _ | refine Ext.drew ?_)))).mono (by omega)⟩
        · have hd1 : ¬ (0 < d) := hd0
          go_wp2_with fail
          refine (pick_c g _ 4 _ (HS3.out.rd.ext (by (repeat (first | exact Ext.refl _ | assumption | refine Ext.alloc ?_ _ | refine Ext.drewN ?_ _ | refine Ext.drew ?_)))) (by omega)).mono ?_
          rintro e w6 ⟨y3, rfl, hy3, hr6, ht6⟩
          have HS6 := Lib.hid (HS3.out.drawn (by (repeat (first | exact Ext.refl _ | assumption | refine Ext.alloc ?_ _ | refine Ext.drewN ?_ _ | refine Ext.drew ?_))) ht6 hr6)
          have OF6 := Lib.hid (OwnI.drawn (OF.out.ext (by (repeat (first | exact Ext.refl _ | assumption | refine Ext.alloc ?_ _ | refine Ext.drewN ?_ _ | refine Ext.drew ?_)))) ht6 hg)
          have hz6 := HS6.out.tch.size
          clear HS3 OF hr6 ht6
          by_cases h3 : y3 = 0
          · subst h3
            go_wp2
            go_meet
            case rel => exact Lib.hid ⟨1, [15], _, _, rfl, rfl, by omega, OwnI.lit1 _ _ _ _ (by first | omega | (simp; omega)), (HS6.out.ext (by (repeat (first | exact Ext.refl _ | assumption | refine Ext.alloc ?_ _ | refine Ext.drewN ?_ _ | refine Ext.drew ?_)))).mono (by omega)⟩
          · have hyb3 : ((y3 : Int) == 0) = false := by simp; omega
            go_wp2
            go_meet
            case rel => exact Lib.hid ⟨1, [16 + (x3 : Int)], _, _, rfl, rfl, by omega, OF6.out.ext (by (repeat (first | exact Ext.refl _ | assumption | refine Ext.alloc ?_ _ | refine Ext.drewN ?_ _ | refine Ext.drew ?_))), (HS6.out.ext (by (repeat (first | exact Ext.refl _ | assumption | refine Ext.alloc ?_ _ | refine Ext.drewN ?_ _ | refine Ext.drew ?_)))).mono (by omega)⟩
      case rest =>
        obtain ⟨n, N, an, cn, rfl, hNn, hn40, hoN, hsN⟩ := hcut.out
        have ON := Lib.hid hoN
        have HSN := Lib.hid hsN
        have hzN := hsN.tch.size
        clear hcut hoN hsN HS3
        have KT : Hid (∀ w', Ext wc w' → Calls Tryz.prog 181 #[.slice av L.length cv, .slice an n cn] w' (RetV w' (kvB L && kvB N && kvB (L ++ N ++ [19])) (L ++ N ++ [19]))) := fun w' hx => by
          have := sKatThen_c av an cv cn L N w' (HSN.out.own.ints.ext hx) ((own_lenI hNn.out ON.out).ext hx) (by omega) (by rw [hNn.out]; omega)
          rw [hNn.out] at this; exact this
        have hk40 : Hid ((kvB L && kvB N && kvB (L ++ N ++ [19])) = true → (L ++ N ++ [19]).length ≤ 40) := fun h => (kvB_len (by rw [Bool.and_eq_true] at h; exact h.2)).2
        obtain ⟨M, hM, -⟩ := namedI (L ++ N ++ [19])
        rw [← hM.out] at KT hk40
        clear hM
        generalize (kvB L && kvB N && kvB M) = bb at KT hk40
        go_wp2_with fail
        refine (KT.out _ (by (repeat (first | exact Ext.refl _ | assumption | refine Ext.alloc ?_ _ | refine Ext.drewN ?_ _ | refine Ext.drew ?_)))).mono ?_
        rintro e w8 ⟨v8, rfl, o8, y8⟩
        have hy8 := Lib.hid (Ext.trans (by (repeat (first | exact Ext.refl _ | assumption | refine Ext.alloc ?_ _ | refine Ext.drewN ?_ _ | refine Ext.drew ?_))) y8)
        have HS8 := Lib.hid (HSN.out.ext hy8.out)
        have OM := Lib.hid (o8.mono (B' := w.heap.size) (by first | omega | (simp; omega)))
        have ON8 := Lib.hid (ON.out.ext hy8.out)
        obtain ⟨a8, c8, rfl, -⟩ := o8.shape
        have hz8 := HS8.out.tch.size
        clear KT y8 o8 hy8 HSN ON
        go_wp2_with fail
        refine (pick_c g _ 4 _ (HS8.out.rd.ext (by (repeat (first | exact Ext.refl _ | assumption | refine Ext.alloc ?_ _ | refine Ext.drewN ?_ _ | refine Ext.drew ?_)))) (by omega)).mono ?_
        rintro e w9 ⟨z, rfl, hz, hr9, ht9⟩
        have HS9 := Lib.hid (HS8.out.drawn (by (repeat (first | exact Ext.refl _ | assumption | refine Ext.alloc ?_ _ | refine Ext.drewN ?_ _ | refine Ext.drew ?_))) ht9 hr9)
        have OM9 := Lib.hid (OwnI.drawn (OM.out.ext (by (repeat (first | exact Ext.refl _ | assumption | refine Ext.alloc ?_ _ | refine Ext.drewN ?_ _ | refine Ext.drew ?_)))) ht9 hg)
        have ON9 := Lib.hid (OwnI.drawn (ON8.out.ext (by (repeat (first | exact Ext.refl _ | assumption | refine Ext.alloc ?_ _ | refine Ext.drewN ?_ _ | refine Ext.drew ?_)))) ht9 hg)
        have hz9 := HS9.out.tch.size
        clear HS8 OM ON8 hr9 ht9
        by_cases h0 : z = 0
        · subst h0
          go_wp2
          go_roundw
          case rel => exact Lib.hid (hmi.out _ _ N (by rw [hNn.out]; omega) ((HS9.out.other (by (repeat (first | exact Ext.refl _ | assumption | refine Ext.alloc ?_ _ | refine Ext.drewN ?_ _ | refine Ext.drew ?_))) (ON9.out.ext (by (repeat (first | exact Ext.refl _ | assumption | refine Ext.alloc ?_ _ | refine Ext.drewN ?_ _ | refine Ext.drew ?_))))).mono (by omega)))
          case measure => simp [intOf]; omega
        · have hzb : ((z : Int) == 0) = false := by simp; omega
          cases bb
          · go_wp2
            go_roundw
            case rel => exact Lib.hid (hmi.out _ _ L hL ((HS9.out.ext (by (repeat (first | exact Ext.refl _ | assumption | refine Ext.alloc ?_ _ | refine Ext.drewN ?_ _ | refine Ext.drew ?_)))).mono (by omega)))
            case measure => simp [intOf]; omega
          · have hMl := hk40.out rfl
            have hkl : Hid (keepL true M = M) := rfl
            go_wp2
            go_roundw
            case rel => exact Lib.hid (hmi.out _ _ M hMl ((HS9.out.other (by (repeat (first | exact Ext.refl _ | assumption | refine Ext.alloc ?_ _ | refine Ext.drewN ?_ _ | refine Ext.drew ?_))) (OM9.out.ext (by (repeat (first | exact Ext.refl _ | assumption | refine Ext.alloc ?_ _ | refine Ext.drewN ?_ _ | refine Ext.drew ?_))))).mono (by omega)))
            case measure => simp [intOf]; omega
    · go_wp2
      go_ret
      exact (HS.out.ext (by (repeat (first | exact Ext.refl _ | assumption | refine Ext.alloc ?_ _ | refine Ext.drewN ?_ _ | refine Ext.drew ?_)))).drewL hL (by have := Nat.mul_le_mul_right (2 * b + 40) (show i ≤ 2 by omega); omega)
theorem l20While_c : ∀ (d g m : Nat) (w : World), Rd w g m → m + kwl d ≤ 80000 → d ≤ 10 →
    Calls Tryz.prog 165 #[.pointer (some ⟨g, 0, none⟩), .int .i64 (d : Int)] w (DrewL w g (m + kwl d) 40)
  | 0, g, m, w, h, hm, hd => l20While_step 0 g m 0 w h (by decide) hm hd (fun h => absurd h (by decide))
  | d + 1, g, m, w, h, hm, hd => by
    refine l20While_step (d + 1) g m (kwl d) w h (by simp only [kwl]; omega) hm hd fun _ m' w' h' hm' => ?_
    have := l20While_c d g m' w' h' hm' (by omega)
    rw [show (((d + 1 : Nat) : Int) - 1) = (d : Int) by omega]
    exact this
theorem DrewL.mono {w w' : World} {g m n m' n' : Nat} {e : Ending} (h : DrewL w g m n e w') (hm : m ≤ m') (hn : n ≤ n') : DrewL w g m' n' e w' := by
  obtain ⟨v, L, he, ho, hl, hr, ht⟩ := h
  exact ⟨v, L, he, ho, by omega, hr.mono hm, ht⟩
theorem DrewL.after {w w1 w' : World} {g m n : Nat} {e : Ending} (h : DrewL w1 g m n e w') (ht : Touched w w1 g (g + 1)) (hg : g < w.heap.size) : DrewL w g m n e w' := by
  obtain ⟨v, L, he, ho, hl, hr, ht2⟩ := h
  exact ⟨v, L, he, ho.mono ht.size, hl, hr, ht.trans ht2⟩
set_option maxHeartbeats 1000000 in
theorem l20Prog_c (g m p : Nat) (n : Int) (w : World) (h : Rd w g m) (hp : p ≤ 12) (hm : m ≤ 70000) :
    Calls Tryz.prog 137 #[.pointer (some ⟨g, 0, none⟩), .int .i64 (p : Int), .int .i64 n] w (DrewL w g (m + 600) 41) := by
  have hg := h.lt
  have HH := Lib.hid h
  clear h
  go_enter Tryz.func137, Tryz.ntmps137
  go_wp2_with fail
  refine (pick_c g m 2 _ (HH.out.ext (by (repeat (first | exact Ext.refl _ | assumption | refine Ext.alloc ?_ _ | refine Ext.drewN ?_ _ | refine Ext.drew ?_)))) (by omega)).mono ?_
  rintro e w1 ⟨x, rfl, hx, hr, ht⟩
  have HR := Lib.hid hr
  have HT := Lib.hid (Touched.trans (Touched.of_ext (show Ext w _ by (repeat (first | exact Ext.refl _ | assumption | refine Ext.alloc ?_ _ | refine Ext.drewN ?_ _ | refine Ext.drew ?_)))) ht)
  clear hr ht
  by_cases h0 : x = 0
  · subst h0
    go_wp2_with fail
    refine (l20While_c 1 g _ _ (HR.out.ext (by (repeat (first | exact Ext.refl _ | assumption | refine Ext.alloc ?_ _ | refine Ext.drewN ?_ _ | refine Ext.drew ?_)))) (by simp only [kwl]; omega) (by decide)).mono ?_
    rintro e w2 ⟨v, L, rfl, ho, hl, hr, ht⟩
    have hz := HT.out.size
    have HD : Hid (DrewL w g (m + 600) 41 (.returned v) w2) := ⟨v, L, rfl, ho.mono (by first | omega | (simp; omega)), by omega, hr.mono (by simp only [kwl]; omega), HT.out.trans (Touched.trans (Touched.of_ext (by (repeat (first | exact Ext.refl _ | assumption | refine Ext.alloc ?_ _ | refine Ext.drewN ?_ _ | refine Ext.drew ?_)))) ht)⟩
    clear ho hr ht
    go_wp2
    go_ret
    exact HD.out
  · have hxb : ((x : Int) == 0) = false := by simp; omega
    go_wp2_with fail
    refine (l20Kat_c g _ p n _ (HR.out.ext (by (repeat (first | exact Ext.refl _ | assumption | refine Ext.alloc ?_ _ | refine Ext.drewN ?_ _ | refine Ext.drew ?_)))) hp (by omega)).mono ?_
    rintro e w2 ⟨v, L, rfl, ho, hl, hr, ht⟩
    have hz := HT.out.size
    have HD : Hid (DrewL w g (m + 600) 41 (.returned v) w2) := ⟨v, L, rfl, ho.mono (by first | omega | (simp; omega)), by omega, hr.mono (by omega), HT.out.trans (Touched.trans (Touched.of_ext (by (repeat (first | exact Ext.refl _ | assumption | refine Ext.alloc ?_ _ | refine Ext.drewN ?_ _ | refine Ext.drew ?_)))) ht)⟩
    clear ho hr ht
    go_wp2
    go_ret
    exact HD.out
end Go.Proofs.YtlaamecfknkmlaaGreat
