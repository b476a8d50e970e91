/- Merged texts: contracts and plain lemmas (Yo). -/
import Derived.Test.YtlaamecfknkmlaaGreatGrKd
/- Contracts: traces drawn. -/
namespace Go.Proofs.YtlaamecfknkmlaaGreat
set_option linter.unusedVariables false
open Go.RowKit Go.Kt

set_option maxRecDepth 100000 in
set_option maxHeartbeats 4000000 in
theorem l20Trace_c (g m n : Nat) (p : Int) (w : World) (h : Rd w g m) (hn : n ≤ 4) (hm : m ≤ 80000) :
    Calls Tryz.prog 98 #[.pointer (some ⟨g, 0, none⟩), .int .i64 (n : Int), .int .i64 p] w (DrewL w g (m + 20) 43) := by
  have hg := h.lt
  have HH := Lib.hid h
  clear h
  go_enter Tryz.func98, Tryz.ntmps98
  go_wp2_with fail
  refine (pick_c g m 4 _ (HH.out.ext (by (repeat (first | exact Ext.refl _ | assumption | refine Ext.alloc ?_ _ | refine Ext.drewN ?_ _ | refine Ext.drew ?_)))) (by omega)).mono ?_
  rintro e w1 ⟨x1, rfl, hx1, hr, ht⟩
  have H1 : Hid (WordSt w w1 g (m + 1) (.slice none 0 0) []) := ⟨hg, OwnI.nil _ _ _, hr, ht⟩
  have hz1 := ht.size
  clear hr ht
  go_wp2_with fail
  have O1 : Hid (OwnI (w1.alloc (.cells #[.int .i64 x1] 3)) w.heap.size 3 (.slice (some ⟨w1.heap.size, 0, none⟩) 1 1) [(x1 : Int)]) := OwnI.lit1 _ _ _ _ hz1
  have H1' := Lib.hid (H1.out.other (by (repeat (first | exact Ext.refl _ | assumption | refine Ext.alloc ?_ _ | refine Ext.drewN ?_ _ | refine Ext.drew ?_))) O1.out)
  refine (pick_c g _ _ _ (H1'.out.rd.ext (by (repeat (first | exact Ext.refl _ | assumption | refine Ext.alloc ?_ _ | refine Ext.drewN ?_ _ | refine Ext.drew ?_)))) (by omega)).mono ?_
  rintro e w2 ⟨x2, rfl, hx2, hr2, ht2⟩
  have H2 := Lib.hid (H1'.out.drawn (by (repeat (first | exact Ext.refl _ | assumption | refine Ext.alloc ?_ _ | refine Ext.drewN ?_ _ | refine Ext.drew ?_))) ht2 hr2)
  have hz2 := H2.out.tch.size
  have hxp : x2 ≤ n := by omega
  clear hr2 ht2 H1 H1' O1 hx2
  go_wp2
  go_loopw [7, 8] (fun v k wr => Hid (∃ (j : Nat) (L : List Int) (i : Nat), k = .int .i64 j ∧ i + j ≤ n ∧ L.length ≤ 1 + 2 * i ∧ WordSt w wr g (m + 2 + 2 * i) v L)) (fun _ k _ => (intOf k).toNat)
  case atStart => exact Lib.hid ⟨x2, _, 0, rfl, by omega, by simp, H2.out⟩
  case round =>
    obtain ⟨j, L, i, rfl, hij, hL, hs⟩ := hrel.out
    clear hrel H2
    obtain ⟨av, cv, rfl⟩ := hs.shape
    have HS := Lib.hid hs
    clear hs
    have hwj : IntKind.i64.wrap ((j : Int) - 1) = (j : Int) - 1 := IntWalk.i64_in _ (by omega)
    by_cases hj0 : 0 < j
    · go_wp2_with fail
      refine (pick_c g _ 3 _ (HS.out.rd.ext (by (repeat (first | exact Ext.refl _ | assumption | refine Ext.alloc ?_ _ | refine Ext.drewN ?_ _ | refine Ext.drew ?_)))) (by omega)).mono ?_
      rintro e w4 ⟨y, rfl, hy, hr4, ht4⟩
      have HS4 := Lib.hid (HS.out.drawn (by (repeat (first | exact Ext.refl _ | assumption | refine Ext.alloc ?_ _ | refine Ext.drewN ?_ _ | refine Ext.drew ?_))) ht4 hr4)
      have hz4 := HS4.out.tch.size
      clear HS hr4 ht4
      go_wp2_with fail
      refine (pick_c g _ 4 _ (HS4.out.rd.ext (by (repeat (first | exact Ext.refl _ | assumption | refine Ext.alloc ?_ _ | refine Ext.drewN ?_ _ | refine Ext.drew ?_)))) (by omega)).mono ?_
      rintro e w5 ⟨z, rfl, hz, hr5, ht5⟩
      have HS5 := Lib.hid (HS4.out.drawn (by (repeat (first | exact Ext.refl _ | assumption | refine Ext.alloc ?_ _ | refine Ext.drewN ?_ _ | refine Ext.drew ?_))) ht5 hr5)
      have hz5 := HS5.out.tch.size
      clear HS4 hr5 ht5
      have hwy : IntKind.i64.wrap (16 + (y : Int)) = 16 + (y : Int) := IntWalk.i64_in _ (by omega)
      go_wp2_with (at_builtin; refine any_append_ints (by rfl) _ _ _ rfl (w.heap.size) 3 Tryz.underlying23 infoInt _ (_) rfl (HS5.out.own.ext (by (repeat (first | exact Ext.refl _ | assumption | refine Ext.alloc ?_ _ | refine Ext.drewN ?_ _ | refine Ext.drew ?_)))) _ _ ([16 + (y : Int), (z : Int)]) rfl (by first | exact (OwnI.lit2 _ _ _ _ _ (Nat.le_refl _)).ints | exact ((OwnI.lit2 _ _ _ _ _ (Nat.le_refl _)).ints).ext (by (repeat (first | exact Ext.refl _ | assumption | refine Ext.alloc ?_ _ | refine Ext.drewN ?_ _ | refine Ext.drew ?_)))) (by first | omega | (simp; omega)) (by first | omega | (simp; done) | (simp; omega)) ?_)
      intro v6 w6 o6 g6
      have HS6 := Lib.hid (HS5.out.more (by (repeat (first | exact Ext.refl _ | assumption | refine Ext.alloc ?_ _ | refine Ext.drewN ?_ _ | refine Ext.drew ?_))) (HS5.out.own.ext (by (repeat (first | exact Ext.refl _ | assumption | refine Ext.alloc ?_ _ | refine Ext.drewN ?_ _ | refine Ext.drew ?_)))) o6 g6)
      clear HS5 o6 g6
      go_wp2
      go_roundw
      case rel => exact Lib.hid ⟨j - 1, _, i + 1, by congr 1; omega, by omega, by simp; omega, HS6.out.mono (by omega)⟩
      case measure => simp [intOf]; omega
    · have HM := Lib.hid (HS.out.mono (m' := m + 2 + 2 * n) (by omega))
      have hz0 := HM.out.tch.size
      have hL9 : L.length ≤ 9 := by omega
      clear HS hij hL
      have hq : m + 2 + 2 * n ≤ m + 10 := by omega
      generalize m + 2 + 2 * n = q at *
      go_wp2_with fail
      refine (odd_c g _ p _ (HM.out.rd.ext (by (repeat (first | exact Ext.refl _ | assumption | refine Ext.alloc ?_ _ | refine Ext.drewN ?_ _ | refine Ext.drew ?_)))) (by omega)).mono ?_
      rintro e w5 ⟨od, rfl, hr5, ht5⟩
      have H5 := Lib.hid (HM.out.drawn (by (repeat (first | exact Ext.refl _ | assumption | refine Ext.alloc ?_ _ | refine Ext.drewN ?_ _ | refine Ext.drew ?_))) ht5 hr5)
      have hz5 := H5.out.tch.size
      clear HM hr5 ht5
      cases od
      · go_wp2
        go_ret
        exact (H5.out.ext (by (repeat (first | exact Ext.refl _ | assumption | refine Ext.alloc ?_ _ | refine Ext.drewN ?_ _ | refine Ext.drew ?_)))).drewL (by omega) (by omega)
      · go_wp2_with fail
        refine (pick_c g _ 4 _ (H5.out.rd.ext (by (repeat (first | exact Ext.refl _ | assumption | refine Ext.alloc ?_ _ | refine Ext.drewN ?_ _ | refine Ext.drew ?_)))) (by omega)).mono ?_
        rintro e w6 ⟨y, rfl, hy, hr6, ht6⟩
        have H6 := Lib.hid (H5.out.drawn (by (repeat (first | exact Ext.refl _ | assumption | refine Ext.alloc ?_ _ | refine Ext.drewN ?_ _ | refine Ext.drew ?_))) ht6 hr6)
        have hz6 := H6.out.tch.size
        clear H5 hr6 ht6
        rcases (show y = 0 ∨ y = 1 ∨ y = 2 ∨ 3 ≤ y by omega) with rfl | rfl | rfl | hy3
        · go_wp2
          go_ret
          exact (H6.out.other (by (repeat (first | exact Ext.refl _ | assumption | refine Ext.alloc ?_ _ | refine Ext.drewN ?_ _ | refine Ext.drew ?_))) ((OwnI.empty _ _).mono (by first | omega | (simp; omega)))).drewL (by simp) (by omega)
        · go_wp2_with (at_builtin; refine any_append_ints (by rfl) _ _ _ rfl (w.heap.size) 3 Tryz.underlying23 infoInt _ (_) rfl (H6.out.own.ext (by (repeat (first | exact Ext.refl _ | assumption | refine Ext.alloc ?_ _ | refine Ext.drewN ?_ _ | refine Ext.drew ?_)))) _ _ ([16]) rfl (by first | exact (OwnI.lit1 _ _ _ _ (Nat.le_refl _)).ints | exact ((OwnI.lit1 _ _ _ _ (Nat.le_refl _)).ints).ext (by (repeat (first | exact Ext.refl _ | assumption | refine Ext.alloc ?_ _ | refine Ext.drewN ?_ _ | refine Ext.drew ?_)))) (by first | omega | (simp; omega)) (by first | omega | (simp; done) | (simp; omega)) ?_)
          intro v7 w7 o7 g7
          have H7 := Lib.hid (H6.out.more (by (repeat (first | exact Ext.refl _ | assumption | refine Ext.alloc ?_ _ | refine Ext.drewN ?_ _ | refine Ext.drew ?_))) (H6.out.own.ext (by (repeat (first | exact Ext.refl _ | assumption | refine Ext.alloc ?_ _ | refine Ext.drewN ?_ _ | refine Ext.drew ?_)))) o7 g7)
          clear H6 o7 g7
          go_wp2
          go_ret
          exact (H7.out.ext (by (repeat (first | exact Ext.refl _ | assumption | refine Ext.alloc ?_ _ | refine Ext.drewN ?_ _ | refine Ext.drew ?_)))).drewL (by simp; omega) (by omega)
        · go_wp2_with (at_builtin; refine any_append_ints (by rfl) _ _ _ rfl (w.heap.size) 3 Tryz.underlying23 infoInt _ (_) rfl (H6.out.own.ext (by (repeat (first | exact Ext.refl _ | assumption | refine Ext.alloc ?_ _ | refine Ext.drewN ?_ _ | refine Ext.drew ?_)))) _ _ ([19, 0]) rfl (by first | exact (OwnI.lit2 _ _ _ _ _ (Nat.le_refl _)).ints | exact ((OwnI.lit2 _ _ _ _ _ (Nat.le_refl _)).ints).ext (by (repeat (first | exact Ext.refl _ | assumption | refine Ext.alloc ?_ _ | refine Ext.drewN ?_ _ | refine Ext.drew ?_)))) (by first | omega | (simp; omega)) (by first | omega | (simp; done) | (simp; omega)) ?_)
          intro v7 w7 o7 g7
          have H7 := Lib.hid (H6.out.more (by (repeat (first | exact Ext.refl _ | assumption | refine Ext.alloc ?_ _ | refine Ext.drewN ?_ _ | refine Ext.drew ?_))) (H6.out.own.ext (by (repeat (first | exact Ext.refl _ | assumption | refine Ext.alloc ?_ _ | refine Ext.drewN ?_ _ | refine Ext.drew ?_)))) o7 g7)
          clear H6 o7 g7
          go_wp2
          go_ret
          exact (H7.out.ext (by (repeat (first | exact Ext.refl _ | assumption | refine Ext.alloc ?_ _ | refine Ext.drewN ?_ _ | refine Ext.drew ?_)))).drewL (by simp; omega) (by omega)
        · have e0 : ((y : Int) == 0) = false := by simp; omega
          have e1 : ((y : Int) == 1) = false := by simp; omega
          have e2 : ((y : Int) == 2) = false := by simp; omega
          go_wp2
          go_loopw [7] (fun v wr => Hid (∃ (M : List Int), M.length ≤ 43 ∧ WordSt w wr g (q + 1 + 1) v M)) (fun v _ => 43 - (match v with | .slice _ n _ => n | _ => 0))
          case atStart => exact Lib.hid ⟨L, by omega, H6.out⟩
          case round =>
            obtain ⟨N, hN, hsN⟩ := hrel.out
            obtain ⟨an, cn, rfl⟩ := hsN.shape
            have HN := Lib.hid hsN
            have hzN := HN.out.tch.size
            clear hrel H6 hsN
            by_cases h16 : N.length ≤ 41
            · go_wp2_with (at_builtin; refine any_append_ints (by rfl) _ _ _ rfl (w.heap.size) 3 Tryz.underlying23 infoInt _ (_) rfl (HN.out.own.ext (by (repeat (first | exact Ext.refl _ | assumption | refine Ext.alloc ?_ _ | refine Ext.drewN ?_ _ | refine Ext.drew ?_)))) _ _ ([16, 0]) rfl (by first | exact (OwnI.lit2 _ _ _ _ _ (Nat.le_refl _)).ints | exact ((OwnI.lit2 _ _ _ _ _ (Nat.le_refl _)).ints).ext (by (repeat (first | exact Ext.refl _ | assumption | refine Ext.alloc ?_ _ | refine Ext.drewN ?_ _ | refine Ext.drew ?_)))) (by first | omega | (simp; omega)) (by first | omega | (simp; done) | (simp; omega)) ?_)
              intro v7 w7 o7 g7
              have H7 := Lib.hid (HN.out.more (by (repeat (first | exact Ext.refl _ | assumption | refine Ext.alloc ?_ _ | refine Ext.drewN ?_ _ | refine Ext.drew ?_))) (HN.out.own.ext (by (repeat (first | exact Ext.refl _ | assumption | refine Ext.alloc ?_ _ | refine Ext.drewN ?_ _ | refine Ext.drew ?_)))) o7 g7)
              obtain ⟨L7, hL7, hl7⟩ := namedI (N ++ [16, 0])
              rw [← hL7.out] at o7 H7
              rw [List.length_append] at hl7
              have hl7' : L7.length = N.length + 2 := by rw [hl7]; rfl
              obtain ⟨a7, c7, rfl⟩ := H7.out.shape
              have HL7 := Lib.hid hl7'
              clear HN o7 g7 hl7 hl7'
              go_wp2
              go_roundw
              case rel => exact Lib.hid ⟨L7, by have := HL7.out; omega, H7.out.ext (by (repeat (first | exact Ext.refl _ | assumption | refine Ext.alloc ?_ _ | refine Ext.drewN ?_ _ | refine Ext.drew ?_)))⟩
              case measure => have := HL7.out; simp; omega
            · go_wp2
              go_ret
              exact (HN.out.ext (by (repeat (first | exact Ext.refl _ | assumption | refine Ext.alloc ?_ _ | refine Ext.drewN ?_ _ | refine Ext.drew ?_)))).drewL (by omega) (by omega)
end Go.Proofs.YtlaamecfknkmlaaGreat
