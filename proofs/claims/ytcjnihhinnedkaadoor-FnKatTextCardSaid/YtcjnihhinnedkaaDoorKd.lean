/- Contracts: expressions drawn. -/
import Derived.Test.YtcjnihhinnedkaaDoorJn
import Derived.Test.YtcjnihhinnedkaaDoorWd
import Derived.Deep.DeepCutAuto
import Derived.Deep.CutBlock
namespace Go.Proofs.YtcjnihhinnedkaaDoor
set_option linter.unusedVariables false
open Go.RowKit Go.Kt

set_option maxHeartbeats 1000000 in
theorem l20Leaf_c (g m : Nat) (w : World) (h : Rd w g m) (hm : m ≤ 90000) :
    Calls Tryd.prog 37 #[.pointer (some ⟨g, 0, none⟩)] w (DrewL w g (m + 11) 1) := by
  have hg := h.lt
  have HH := Lib.hid h
  clear h
  go_enter Tryd.func37, Tryd.ntmps37
  go_wp2_with fail
  refine (pick_c g m 3 _ (HH.out.ext (by (repeat (first | exact Ext.refl _ | assumption | refine Ext.alloc ?_ _ | refine Ext.drewN ?_ _ | refine Ext.drew ?_)))) (by omega)).mono ?_
  rintro e w1 ⟨x, rfl, hx, hr, ht⟩
  have H1 : Hid (WordSt w w1 g (m + 1) (.slice none 0 0) []) := ⟨hg, OwnI.nil _ _ _, hr, ht⟩
  have hz1 := ht.size
  clear hr ht
  by_cases h0 : x = 0
  · subst h0
    go_wp2_with fail
    refine (l20Test0_c g _ _ (H1.out.rd.ext (by (repeat (first | exact Ext.refl _ | assumption | refine Ext.alloc ?_ _ | refine Ext.drewN ?_ _ | refine Ext.drew ?_)))) (by omega)).mono ?_
    rintro e w2 ⟨t, rfl, ht15, hr2, ht2⟩
    have H2 := Lib.hid (H1.out.drawn (by (repeat (first | exact Ext.refl _ | assumption | refine Ext.alloc ?_ _ | refine Ext.drewN ?_ _ | refine Ext.drew ?_))) ht2 hr2)
    have hz2 := H2.out.tch.size
    clear hr2 ht2 ht15
    go_wp2
    go_ret
    exact (H2.out.other (by (repeat (first | exact Ext.refl _ | assumption | refine Ext.alloc ?_ _ | refine Ext.drewN ?_ _ | refine Ext.drew ?_))) (OwnI.lit1 _ _ _ _ (by first | omega | (simp; omega)))).drewL (by simp) (by omega)
  · have hxb : ((x : Int) == 0) = false := by simp; omega
    go_wp2_with fail
    refine (pick_c g _ 3 _ (H1.out.rd.ext (by (repeat (first | exact Ext.refl _ | assumption | refine Ext.alloc ?_ _ | refine Ext.drewN ?_ _ | refine Ext.drew ?_)))) (by omega)).mono ?_
    rintro e w2 ⟨y, rfl, hy, hr2, ht2⟩
    have H2 := Lib.hid (H1.out.drawn (by (repeat (first | exact Ext.refl _ | assumption | refine Ext.alloc ?_ _ | refine Ext.drewN ?_ _ | refine Ext.drew ?_))) ht2 hr2)
    have hz2 := H2.out.tch.size
    clear hr2 ht2
    go_wp2
    go_ret
    exact (H2.out.other (by (repeat (first | exact Ext.refl _ | assumption | refine Ext.alloc ?_ _ | refine Ext.drewN ?_ _ | refine Ext.drew ?_))) (OwnI.lit1 _ _ _ _ (by first | omega | (simp; omega)))).drewL (by simp) (by omega)
set_option maxRecDepth 100000 in
set_option maxHeartbeats 4000000 in
theorem l20Kat_c (g m p : Nat) (n : Int) (w : World) (h : Rd w g m) (hp : p ≤ 12) (hm : m ≤ 80000) :
    Calls Tryd.prog 23 #[.pointer (some ⟨g, 0, none⟩), .int .i64 (p : Int), .int .i64 n] w (DrewL w g (m + 160) 41) := by
  have hg := h.lt
  have HH := Lib.hid h
  clear h
  go_enter Tryd.func23, Tryd.ntmps23
  go_wp2_with fail
  refine (l20Leaf_c g m _ (HH.out.ext (by (repeat (first | exact Ext.refl _ | assumption | refine Ext.alloc ?_ _ | refine Ext.drewN ?_ _ | refine Ext.drew ?_)))) (by omega)).mono ?_
  rintro e w1 ⟨v1, L1, rfl, o1, hl1, hr, ht⟩
  have H1 : Hid (WordSt w w1 g (m + 11) v1 L1) := ⟨hg, o1, hr, ht⟩
  have hz1 := ht.size
  clear hr ht o1
  go_wp2_with fail
  refine (pick_c g _ _ _ (H1.out.rd.ext (by (repeat (first | exact Ext.refl _ | assumption | refine Ext.alloc ?_ _ | refine Ext.drewN ?_ _ | refine Ext.drew ?_)))) (by omega)).mono ?_
  rintro e w2 ⟨x2, rfl, hx2, hr2, ht2⟩
  have H2 := Lib.hid (H1.out.drawn (by (repeat (first | exact Ext.refl _ | assumption | refine Ext.alloc ?_ _ | refine Ext.drewN ?_ _ | refine Ext.drew ?_))) ht2 hr2)
  have hz2 := H2.out.tch.size
  have hxp : x2 ≤ p := by omega
  clear hr2 ht2 H1 hx2
  go_wp2
  go_loopw [7, 8] (fun v k wr => Hid (∃ (j : Nat) (L : List Int) (i : Nat), k = .int .i64 j ∧ i + j ≤ p ∧ L.length ≤ 40 ∧ WordSt w wr g (m + 12 + 12 * i) v L)) (fun _ k _ => (intOf k).toNat)
  case atStart => exact Lib.hid ⟨x2, L1, 0, rfl, by omega, by omega, H2.out.mono (by omega)⟩
  case round =>
    obtain ⟨j, L, i, rfl, hij, hL, hs⟩ := hrel.out
    clear hrel H2
    obtain ⟨av, cv, rfl⟩ := hs.shape
    have HS := Lib.hid hs
    clear hs
    have hwj : IntKind.i64.wrap ((j : Int) - 1) = (j : Int) - 1 := IntWalk.i64_in _ (by omega)
    by_cases hc : 0 < j ∧ L.length < 38
    · obtain ⟨hj0, hL38⟩ := hc
      go_wp2_with fail
      refine (pick_c g _ 6 _ (HS.out.rd.ext (by (repeat (first | exact Ext.refl _ | assumption | refine Ext.alloc ?_ _ | refine Ext.drewN ?_ _ | refine Ext.drew ?_)))) (by omega)).mono ?_
      rintro e w4 ⟨y, rfl, hy, hr4, ht4⟩
      have HS4 := Lib.hid (HS.out.drawn (by (repeat (first | exact Ext.refl _ | assumption | refine Ext.alloc ?_ _ | refine Ext.drewN ?_ _ | refine Ext.drew ?_))) ht4 hr4)
      have hz4 := HS4.out.tch.size
      clear HS hr4 ht4
      have hmi : Hid (∀ (w' : World) (v' : Value) (M : List Int), M.length ≤ 40 → WordSt w w' g (m + 12 + 12 * (i + 1)) v' M → ∃ (j' : Nat) (L' : List Int) (i' : Nat), Value.int .i64 ((j : Int) - 1) = .int .i64 j' ∧ i' + j' ≤ p ∧ L'.length ≤ 40 ∧ WordSt w w' g (m + 12 + 12 * i') v' L') := fun w' v' M hM hS =>
        ⟨j - 1, M, i + 1, by congr 1; omega, by omega, hM, hS⟩
      rcases (show y = 0 ∨ y = 1 ∨ y = 2 ∨ y = 3 ∨ 4 ≤ y by omega) with rfl | rfl | rfl | rfl | hy3
      · go_wp2_with (at_builtin; refine any_append_ints (by rfl) _ _ _ rfl (w.heap.size) 3 Tryd.underlying22 infoInt _ (_) rfl (HS4.out.own.ext (by (repeat (first | exact Ext.refl _ | assumption | refine Ext.alloc ?_ _ | refine Ext.drewN ?_ _ | refine Ext.drew ?_)))) _ _ ([21]) rfl (by first | exact (OwnI.lit1 _ _ _ _ (Nat.le_refl _)).ints | exact ((OwnI.lit1 _ _ _ _ (Nat.le_refl _)).ints).ext (by (repeat (first | exact Ext.refl _ | assumption | refine Ext.alloc ?_ _ | refine Ext.drewN ?_ _ | refine Ext.drew ?_)))) (by first | omega | (simp; omega)) (by first | omega | (simp; done) | (simp; omega)) ?_)
        intro v6 w6 o6 g6
        have HS6 := Lib.hid (HS4.out.more (by (repeat (first | exact Ext.refl _ | assumption | refine Ext.alloc ?_ _ | refine Ext.drewN ?_ _ | refine Ext.drew ?_))) (HS4.out.own.ext (by (repeat (first | exact Ext.refl _ | assumption | refine Ext.alloc ?_ _ | refine Ext.drewN ?_ _ | refine Ext.drew ?_)))) o6 g6)
        clear HS4 o6 g6
        go_wp2
        go_roundw
        case rel => exact Lib.hid (hmi.out _ _ _ (by first | omega | (simp; omega) | simp) (HS6.out.mono (by omega)))
        case measure => simp [intOf]; omega
      · go_wp2_with fail
        refine (l20Leaf_c g _ _ (HS4.out.rd.ext (by (repeat (first | exact Ext.refl _ | assumption | refine Ext.alloc ?_ _ | refine Ext.drewN ?_ _ | refine Ext.drew ?_)))) (by omega)).mono ?_
        rintro e w5 ⟨vk, Lk, rfl, ok, hlk, hr5, ht5⟩
        have HS5 := Lib.hid (HS4.out.drawn (by (repeat (first | exact Ext.refl _ | assumption | refine Ext.alloc ?_ _ | refine Ext.drewN ?_ _ | refine Ext.drew ?_))) ht5 hr5)
        obtain ⟨ak, ck, rfl, -⟩ := ok.shape
        have OS := Lib.hid (ok.ints)
        have hz5 := HS5.out.tch.size
        obtain ⟨L6, hL6, hl6⟩ := namedI (Lk ++ L ++ [19])
        simp only [List.length_append, List.length_cons, List.length_nil] at hl6
        have J : Hid (∀ w', Ext w5 w' → Calls Tryd.prog 39 #[.slice ak Lk.length ck, .slice av L.length cv, .int .i64 19] w' (RetI 3 w' L6)) := fun w' hx => by
          rw [hL6.out]; exact l2Join_c ak av ck cv Lk L 19 w' (OS.out.ext hx) (HS5.out.own.ints.ext hx) (by omega) (by omega)
        have hl6' : L6.length ≤ 40 := by omega
        clear HS4 hr5 ht5 ok hl6 hL6
        go_wp2_with fail
        refine (J.out _ (by (repeat (first | exact Ext.refl _ | assumption | refine Ext.alloc ?_ _ | refine Ext.drewN ?_ _ | refine Ext.drew ?_)))).mono ?_
        rintro e w6 ⟨v6, rfl, o6, y⟩
        have HS6 := Lib.hid (HS5.out.other y (o6.mono hz5))
        clear HS5 o6 y J OS
        go_wp2
        go_roundw
        case rel => exact Lib.hid (hmi.out _ _ _ hl6' (HS6.out.mono (by omega)))
        case measure => simp [intOf]; omega
      · go_wp2_with fail
        refine (l20Leaf_c g _ _ (HS4.out.rd.ext (by (repeat (first | exact Ext.refl _ | assumption | refine Ext.alloc ?_ _ | refine Ext.drewN ?_ _ | refine Ext.drew ?_)))) (by omega)).mono ?_
        rintro e w5 ⟨vk, Lk, rfl, ok, hlk, hr5, ht5⟩
        have HS5 := Lib.hid (HS4.out.drawn (by (repeat (first | exact Ext.refl _ | assumption | refine Ext.alloc ?_ _ | refine Ext.drewN ?_ _ | refine Ext.drew ?_))) ht5 hr5)
        obtain ⟨ak, ck, rfl, -⟩ := ok.shape
        have OS := Lib.hid (ok.ints)
        have hz5 := HS5.out.tch.size
        obtain ⟨L6, hL6, hl6⟩ := namedI (Lk ++ L ++ [20])
        simp only [List.length_append, List.length_cons, List.length_nil] at hl6
        have J : Hid (∀ w', Ext w5 w' → Calls Tryd.prog 39 #[.slice ak Lk.length ck, .slice av L.length cv, .int .i64 20] w' (RetI 3 w' L6)) := fun w' hx => by
          rw [hL6.out]; exact l2Join_c ak av ck cv Lk L 20 w' (OS.out.ext hx) (HS5.out.own.ints.ext hx) (by omega) (by omega)
        have hl6' : L6.length ≤ 40 := by omega
        clear HS4 hr5 ht5 ok hl6 hL6
        go_wp2_with fail
        refine (J.out _ (by (repeat (first | exact Ext.refl _ | assumption | refine Ext.alloc ?_ _ | refine Ext.drewN ?_ _ | refine Ext.drew ?_)))).mono ?_
        rintro e w6 ⟨v6, rfl, o6, y⟩
        have HS6 := Lib.hid (HS5.out.other y (o6.mono hz5))
        clear HS5 o6 y J OS
        go_wp2
        go_roundw
        case rel => exact Lib.hid (hmi.out _ _ _ hl6' (HS6.out.mono (by omega)))
        case measure => simp [intOf]; omega
      · go_wp2_with fail
        refine (l20Leaf_c g _ _ (HS4.out.rd.ext (by (repeat (first | exact Ext.refl _ | assumption | refine Ext.alloc ?_ _ | refine Ext.drewN ?_ _ | refine Ext.drew ?_)))) (by omega)).mono ?_
        rintro e w5 ⟨vk, Lk, rfl, ok, hlk, hr5, ht5⟩
        have HS5 := Lib.hid (HS4.out.drawn (by (repeat (first | exact Ext.refl _ | assumption | refine Ext.alloc ?_ _ | refine Ext.drewN ?_ _ | refine Ext.drew ?_))) ht5 hr5)
        obtain ⟨ak, ck, rfl, -⟩ := ok.shape
        have OS := Lib.hid (ok.ints)
        have hz5 := HS5.out.tch.size
        obtain ⟨L6, hL6, hl6⟩ := namedI (L ++ Lk ++ [20])
        simp only [List.length_append, List.length_cons, List.length_nil] at hl6
        have J : Hid (∀ w', Ext w5 w' → Calls Tryd.prog 39 #[.slice av L.length cv, .slice ak Lk.length ck, .int .i64 20] w' (RetI 3 w' L6)) := fun w' hx => by
          rw [hL6.out]; exact l2Join_c av ak cv ck L Lk 20 w' (HS5.out.own.ints.ext hx) (OS.out.ext hx) (by omega) (by omega)
        have hl6' : L6.length ≤ 40 := by omega
        clear HS4 hr5 ht5 ok hl6 hL6
        go_wp2_with fail
        refine (J.out _ (by (repeat (first | exact Ext.refl _ | assumption | refine Ext.alloc ?_ _ | refine Ext.drewN ?_ _ | refine Ext.drew ?_)))).mono ?_
        rintro e w6 ⟨v6, rfl, o6, y⟩
        have HS6 := Lib.hid (HS5.out.other y (o6.mono hz5))
        clear HS5 o6 y J OS
        go_wp2
        go_roundw
        case rel => exact Lib.hid (hmi.out _ _ _ hl6' (HS6.out.mono (by omega)))
        case measure => simp [intOf]; omega
      · have e0 : ((y : Int) == 0) = false := by simp; omega
        have e1 : ((y : Int) == 1) = false := by simp; omega
        have e2 : ((y : Int) == 2) = false := by simp; omega
        have e3 : ((y : Int) == 3) = false := by simp; omega
        go_wp2_with fail
        refine (l20Leaf_c g _ _ (HS4.out.rd.ext (by (repeat (first | exact Ext.refl _ | assumption | refine Ext.alloc ?_ _ | refine Ext.drewN ?_ _ | refine Ext.drew ?_)))) (by omega)).mono ?_
        rintro e w5 ⟨vk, Lk, rfl, ok, hlk, hr5, ht5⟩
        have HS5 := Lib.hid (HS4.out.drawn (by (repeat (first | exact Ext.refl _ | assumption | refine Ext.alloc ?_ _ | refine Ext.drewN ?_ _ | refine Ext.drew ?_))) ht5 hr5)
        obtain ⟨ak, ck, rfl, -⟩ := ok.shape
        have OS := Lib.hid (ok.ints)
        have hz5 := HS5.out.tch.size
        obtain ⟨L6, hL6, hl6⟩ := namedI (L ++ Lk ++ [19])
        simp only [List.length_append, List.length_cons, List.length_nil] at hl6
        have J : Hid (∀ w', Ext w5 w' → Calls Tryd.prog 39 #[.slice av L.length cv, .slice ak Lk.length ck, .int .i64 19] w' (RetI 3 w' L6)) := fun w' hx => by
          rw [hL6.out]; exact l2Join_c av ak cv ck L Lk 19 w' (HS5.out.own.ints.ext hx) (OS.out.ext hx) (by omega) (by omega)
        have hl6' : L6.length ≤ 40 := by omega
        clear HS4 hr5 ht5 ok hl6 hL6
        go_wp2_with fail
        refine (J.out _ (by (repeat (first | exact Ext.refl _ | assumption | refine Ext.alloc ?_ _ | refine Ext.drewN ?_ _ | refine Ext.drew ?_)))).mono ?_
        rintro e w6 ⟨v6, rfl, o6, y⟩
        have HS6 := Lib.hid (HS5.out.other y (o6.mono hz5))
        clear HS5 o6 y J OS
        go_wp2
        go_roundw
        case rel => exact Lib.hid (hmi.out _ _ _ hl6' (HS6.out.mono (by omega)))
        case measure => simp [intOf]; omega
    · have HM := Lib.hid (HS.out.mono (m' := m + 12 + 12 * p) (by omega))
      have hz0 := HM.out.tch.size
      have hq : m + 12 + 12 * p ≤ m + 156 := by omega
      clear HS hij
      by_cases hj0 : 0 < j
      all_goals
        try (have hL38 : ¬ L.length < 38 := fun h => hc ⟨hj0, h⟩)
        clear hc
        generalize m + 12 + 12 * p = q at *
        go_wp2_with fail
        refine (odd_c g _ n _ (HM.out.rd.ext (by (repeat (first | exact Ext.refl _ | assumption | refine Ext.alloc ?_ _ | refine Ext.drewN ?_ _ | refine Ext.drew ?_)))) (by omega)).mono ?_
        rintro e w5 ⟨od, rfl, hr5, ht5⟩
        have H5 := Lib.hid (HM.out.drawn (by (repeat (first | exact Ext.refl _ | assumption | refine Ext.alloc ?_ _ | refine Ext.drewN ?_ _ | refine Ext.drew ?_))) ht5 hr5)
        have hz5 := H5.out.tch.size
        clear HM hr5 ht5
        cases od
        · go_wp2
          go_ret
          exact (H5.out.ext (by (repeat (first | exact Ext.refl _ | assumption | refine Ext.alloc ?_ _ | refine Ext.drewN ?_ _ | refine Ext.drew ?_)))).drewL (by omega) (by omega)
        · go_wp2_with fail
          refine (pick_c g _ 5 _ (H5.out.rd.ext (by (repeat (first | exact Ext.refl _ | assumption | refine Ext.alloc ?_ _ | refine Ext.drewN ?_ _ | refine Ext.drew ?_)))) (by omega)).mono ?_
          rintro e w6 ⟨y, rfl, hy, hr6, ht6⟩
          have H6 := Lib.hid (H5.out.drawn (by (repeat (first | exact Ext.refl _ | assumption | refine Ext.alloc ?_ _ | refine Ext.drewN ?_ _ | refine Ext.drew ?_))) ht6 hr6)
          have hz6 := H6.out.tch.size
          clear H5 hr6 ht6
          rcases (show y = 0 ∨ y = 1 ∨ y = 2 ∨ y = 3 ∨ 4 ≤ y by omega) with rfl | rfl | rfl | rfl | hy3
          · go_wp2
            go_ret
            exact (H6.out.other (by (repeat (first | exact Ext.refl _ | assumption | refine Ext.alloc ?_ _ | refine Ext.drewN ?_ _ | refine Ext.drew ?_))) ((OwnI.empty _ _).mono (by first | omega | (simp; omega)))).drewL (by simp) (by omega)
          · go_wp2_with (at_builtin; refine any_append_ints (by rfl) _ _ _ rfl (w.heap.size) 3 Tryd.underlying22 infoInt _ (_) rfl (H6.out.own.ext (by (repeat (first | exact Ext.refl _ | assumption | refine Ext.alloc ?_ _ | refine Ext.drewN ?_ _ | refine Ext.drew ?_)))) _ _ ([16]) rfl (by first | exact (OwnI.lit1 _ _ _ _ (Nat.le_refl _)).ints | exact ((OwnI.lit1 _ _ _ _ (Nat.le_refl _)).ints).ext (by (repeat (first | exact Ext.refl _ | assumption | refine Ext.alloc ?_ _ | refine Ext.drewN ?_ _ | refine Ext.drew ?_)))) (by first | omega | (simp; omega)) (by first | omega | (simp; done) | (simp; omega)) ?_)
            intro v7 w7 o7 g7
            have H7 := Lib.hid (H6.out.more (by (repeat (first | exact Ext.refl _ | assumption | refine Ext.alloc ?_ _ | refine Ext.drewN ?_ _ | refine Ext.drew ?_))) (H6.out.own.ext (by (repeat (first | exact Ext.refl _ | assumption | refine Ext.alloc ?_ _ | refine Ext.drewN ?_ _ | refine Ext.drew ?_)))) o7 g7)
            clear H6 o7 g7
            go_wp2
            go_ret
            exact (H7.out.ext (by (repeat (first | exact Ext.refl _ | assumption | refine Ext.alloc ?_ _ | refine Ext.drewN ?_ _ | refine Ext.drew ?_)))).drewL (by simp; omega) (by omega)
          · go_wp2_with (at_builtin; refine any_append_ints (by rfl) _ _ _ rfl (w.heap.size) 3 Tryd.underlying22 infoInt _ ([20]) rfl (by first | exact OwnI.lit1 _ _ _ _ (by omega) | exact (OwnI.lit1 _ _ _ _ (by omega)).ext (by (repeat (first | exact Ext.refl _ | assumption | refine Ext.alloc ?_ _ | refine Ext.drewN ?_ _ | refine Ext.drew ?_)))) _ _ (L) rfl (H6.out.own.ints.ext (by (repeat (first | exact Ext.refl _ | assumption | refine Ext.alloc ?_ _ | refine Ext.drewN ?_ _ | refine Ext.drew ?_)))) (by first | omega | (simp; omega)) (by first | omega | (simp; done) | (simp; omega)) ?_)
            intro v7 w7 o7 g7
            have H7 := Lib.hid (H6.out.more (by (repeat (first | exact Ext.refl _ | assumption | refine Ext.alloc ?_ _ | refine Ext.drewN ?_ _ | refine Ext.drew ?_))) (OwnI.lit1 _ _ _ _ (by omega)) o7 g7)
            clear H6 o7 g7
            go_wp2
            go_ret
            exact (H7.out.ext (by (repeat (first | exact Ext.refl _ | assumption | refine Ext.alloc ?_ _ | refine Ext.drewN ?_ _ | refine Ext.drew ?_)))).drewL (by simp; omega) (by omega)
          · go_wp2_with fail
            refine (pick_c g _ 2 _ (H6.out.rd.ext (by (repeat (first | exact Ext.refl _ | assumption | refine Ext.alloc ?_ _ | refine Ext.drewN ?_ _ | refine Ext.drew ?_)))) (by omega)).mono ?_
            rintro e w7 ⟨z, rfl, hz, hr7, ht7⟩
            obtain ⟨u, hu⟩ := lit2 (-1) 22 z (by omega)
            have hcz := (World.cell?_of_block (a := ⟨w6.heap.size, z, none⟩) (ht7.block w6.heap.size (by simp) (.inr (by omega)))).trans ((cell_lit w6 _ 3 z).trans hu)
            have H7 := Lib.hid (H6.out.drawn (by (repeat (first | exact Ext.refl _ | assumption | refine Ext.alloc ?_ _ | refine Ext.drewN ?_ _ | refine Ext.drew ?_))) ht7 hr7)
            have hz7 := H7.out.tch.size
            have hz67 : w6.heap.size < w7.heap.size := by have := ht7.size; simp at this; omega
            have hz4 : (z : Int) < 2 := by omega
            clear H6 hr7 ht7 hu hz
            go_wp2_with (at_builtin; refine any_append_ints (by rfl) _ _ _ rfl (w.heap.size) 3 Tryd.underlying22 infoInt _ (_) rfl (H7.out.own.ext (by (repeat (first | exact Ext.refl _ | assumption | refine Ext.alloc ?_ _ | refine Ext.drewN ?_ _ | refine Ext.drew ?_)))) _ _ ([_]) rfl (by first | exact (OwnI.lit1 _ _ _ _ (Nat.le_refl _)).ints | exact ((OwnI.lit1 _ _ _ _ (Nat.le_refl _)).ints).ext (by (repeat (first | exact Ext.refl _ | assumption | refine Ext.alloc ?_ _ | refine Ext.drewN ?_ _ | refine Ext.drew ?_)))) (by first | omega | (simp; omega)) (by first | omega | (simp; done) | (simp; omega)) ?_)
            intro v8 w8 o8 g8
            have H8 := Lib.hid (H7.out.more (by (repeat (first | exact Ext.refl _ | assumption | refine Ext.alloc ?_ _ | refine Ext.drewN ?_ _ | refine Ext.drew ?_))) (H7.out.own.ext (by (repeat (first | exact Ext.refl _ | assumption | refine Ext.alloc ?_ _ | refine Ext.drewN ?_ _ | refine Ext.drew ?_)))) o8 g8)
            clear H7 o8 g8
            go_wp2
            go_ret
            exact (H8.out.ext (by (repeat (first | exact Ext.refl _ | assumption | refine Ext.alloc ?_ _ | refine Ext.drewN ?_ _ | refine Ext.drew ?_)))).drewL (by simp; omega) (by omega)
          · have e0 : ((y : Int) == 0) = false := by simp; omega
            have e1 : ((y : Int) == 1) = false := by simp; omega
            have e2 : ((y : Int) == 2) = false := by simp; omega
            have e3 : ((y : Int) == 3) = false := by simp; omega
            go_wp2
            go_loopw [7] (fun v wr => Hid (∃ (M : List Int), M.length ≤ 41 ∧ WordSt w wr g (q + 1 + 1) v M)) (fun v _ => 41 - (match v with | .slice _ n _ => n | _ => 0))
            case atStart => exact Lib.hid ⟨L, by omega, H6.out⟩
            case round =>
              obtain ⟨N, hN, hsN⟩ := hrel.out
              obtain ⟨an, cn, rfl⟩ := hsN.shape
              have HN := Lib.hid hsN
              have hzN := HN.out.tch.size
              clear hrel H6 hsN
              by_cases h16 : N.length ≤ 40
              · go_wp2_with (at_builtin; refine any_append_ints (by rfl) _ _ _ rfl (w.heap.size) 3 Tryd.underlying22 infoInt _ (_) rfl (HN.out.own.ext (by (repeat (first | exact Ext.refl _ | assumption | refine Ext.alloc ?_ _ | refine Ext.drewN ?_ _ | refine Ext.drew ?_)))) _ _ ([_]) rfl (by first | exact (OwnI.lit1 _ _ _ _ (Nat.le_refl _)).ints | exact ((OwnI.lit1 _ _ _ _ (Nat.le_refl _)).ints).ext (by (repeat (first | exact Ext.refl _ | assumption | refine Ext.alloc ?_ _ | refine Ext.drewN ?_ _ | refine Ext.drew ?_)))) (by first | omega | (simp; omega)) (by first | omega | (simp; done) | (simp; omega)) ?_)
                intro v7 w7 o7 g7
                have H7 := Lib.hid (HN.out.more (by (repeat (first | exact Ext.refl _ | assumption | refine Ext.alloc ?_ _ | refine Ext.drewN ?_ _ | refine Ext.drew ?_))) (HN.out.own.ext (by (repeat (first | exact Ext.refl _ | assumption | refine Ext.alloc ?_ _ | refine Ext.drewN ?_ _ | refine Ext.drew ?_)))) o7 g7)
                obtain ⟨L7, hL7, hl7⟩ := namedI (N ++ [21])
                rw [← hL7.out] at o7 H7
                rw [List.length_append] at hl7
                have hl7' : L7.length = N.length + 1 := by rw [hl7]; rfl
                obtain ⟨a7, c7, rfl⟩ := H7.out.shape
                have HL7 := Lib.hid hl7'
                clear HN o7 g7 hl7 hl7'
                go_wp2
                go_roundw
                case rel => exact Lib.hid ⟨L7, by have := HL7.out; omega, H7.out.ext (by (repeat (first | exact Ext.refl _ | assumption | refine Ext.alloc ?_ _ | refine Ext.drewN ?_ _ | refine Ext.drew ?_)))⟩
                case measure => have := HL7.out; simp; omega
              · go_wp2
                go_ret
                exact (HN.out.ext (by (repeat (first | exact Ext.refl _ | assumption | refine Ext.alloc ?_ _ | refine Ext.drewN ?_ _ | refine Ext.drew ?_)))).drewL (by omega) (by omega)
end Go.Proofs.YtcjnihhinnedkaaDoor
