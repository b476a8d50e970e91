/- For all bytes: the code that DrawCodeValid draws of them is valid for the program where it is for the reference; with an action ahead, and every jump one farther, as far as it fits, a valid code is valid (FnCodeValid). -/
import Derived.Test.YtnhdachenckceaaDc
import Derived.Test.YtnhdachenckceaaFrame
namespace Go.Kt
set_option linter.unusedVariables false
def lateT (K T : Int) : Int := if K = 1 ∨ K = 2 then T + 1 else T
/-- The first k instructions, every jump one farther, an action ahead. -/
def later (L : List Int) : Nat → List Int
  | 0 => [0, 16, 0]
  | k + 1 => later L k ++ [kd L k, ag L k, lateT (kd L k) (tg L k)]
theorem later_length (L : List Int) : ∀ k, (later L k).length = (k + 1) * 3
  | 0 => rfl
  | k + 1 => by simp only [later, List.length_append, later_length L k]; simp; omega
theorem nth_left {xs ys : List Int} {i : Nat} (h : i < xs.length) : nth (xs ++ ys) i = nth xs i := by
  unfold nth; rw [List.getD_eq_getElem?_getD, List.getD_eq_getElem?_getD, List.getElem?_append_left h]
theorem nth_right {xs ys : List Int} {i : Nat} (h : i = xs.length) (d : Nat) : nth (xs ++ ys) (i + d) = nth ys d := by
  subst h
  unfold nth; rw [List.getD_eq_getElem?_getD, List.getD_eq_getElem?_getD, List.getElem?_append_right (by omega), Nat.add_sub_cancel_left]
theorem later_zero (L : List Int) : ∀ k, nth (later L k) 0 = 0 ∧ nth (later L k) 1 = 16 ∧ nth (later L k) 2 = 0
  | 0 => ⟨rfl, rfl, rfl⟩
  | k + 1 => by
    have hl := later_length L k
    obtain ⟨h0, h1, h2⟩ := later_zero L k
    simp only [later]
    rw [nth_left (by omega), nth_left (by omega), nth_left (by omega)]
    exact ⟨h0, h1, h2⟩
theorem later_get (L : List Int) : ∀ k i, i < k → kd (later L k) (i + 1) = kd L i ∧ ag (later L k) (i + 1) = ag L i ∧ tg (later L k) (i + 1) = lateT (kd L i) (tg L i)
  | 0, i, h => absurd h (Nat.not_lt_zero _)
  | k + 1, i, h => by
    have hl := later_length L k
    by_cases hik : i < k
    · obtain ⟨h0, h1, h2⟩ := later_get L k i hik
      simp only [kd, ag, tg] at h0 h1 h2 ⊢
      simp only [later]
      rw [nth_left (by omega), nth_left (by omega), nth_left (by omega)]
      exact ⟨h0, h1, h2⟩
    · obtain rfl : i = k := by omega
      simp only [later]
      refine ⟨?_, ?_, ?_⟩
      · have := nth_right (xs := later L i) (ys := [kd L i, ag L i, lateT (kd L i) (tg L i)]) (i := (i + 1) * 3) (by omega) 0
        exact this
      · have := nth_right (xs := later L i) (ys := [kd L i, ag L i, lateT (kd L i) (tg L i)]) (i := (i + 1) * 3) (by omega) 1
        exact this
      · have := nth_right (xs := later L i) (ys := [kd L i, ag L i, lateT (kd L i) (tg L i)]) (i := (i + 1) * 3) (by omega) 2
        exact this
theorem later_valid {n : Nat} {L : List Int} (h : cvB n L = true) (h40 : n + 1 ≤ 40) : cvB (n + 1) (later L n) = true := by
  obtain ⟨h1, _, hlast, hall⟩ := cvB_bounds h
  have hz := later_zero L n
  rw [cvB_all (by omega) h40]
  · have := (later_get L n (n - 1) (by omega)).1
    rw [show n - 1 + 1 = n + 1 - 1 by omega] at this
    rw [this]
    simpa using hlast
  · intro i hi
    cases i with
    | zero =>
      have e0 : kd (later L n) 0 = 0 := hz.1
      have e1 : ag (later L n) 0 = 16 := hz.2.1
      have e2 : tg (later L n) 0 = 0 := hz.2.2
      rw [e0, e1, e2]; rfl
    | succ i =>
      obtain ⟨e0, e1, e2⟩ := later_get L n i (by omega)
      have hi' := hall i (by omega)
      rw [e0, e1, e2]
      have hk := insB_kind hi'
      by_cases hg : kd L i = 1 ∨ kd L i = 2
      · rw [show lateT (kd L i) (tg L i) = tg L i + 1 from if_pos hg]
        have ht := insB_goes hi' hg
        rcases hg with hg | hg
        · rw [hg] at hi' ⊢
          simp only [insB] at hi' ⊢
          simp at hi' ⊢
          omega
        · rw [hg] at hi' ⊢
          simp only [insB] at hi' ⊢
          simp at hi' ⊢
          omega
      · rw [show lateT (kd L i) (tg L i) = tg L i from if_neg hg]
        have h03 : kd L i = 0 ∨ kd L i = 3 := by omega
        rcases h03 with h | h
        · rw [h] at hi' ⊢
          exact hi'
        · rw [h] at hi' ⊢
          exact hi'
end Go.Kt
namespace Go.Proofs.Ytnhdachenckceaa
set_option linter.unusedVariables false
open Go.RowKit Go.Kt

theorem flat_new {w : World} {g E : Nat} {x y z : Int} (hg : g = w.heap.size) : FlatAt (w.alloc (.cells #[.int .i64 x, .int .i64 y, .int .i64 z] E)) (some ⟨g, 0, none⟩) 1 [x, y, z] := by
  subst hg
  exact (OwnF.lit _ _ _ _ _ _ (Nat.le_refl _)).flat
set_option maxHeartbeats 1000000 in
theorem fnCodeValid_c (a : Option Addr) (cap : Nat) (l : List Int) (w : World) (h : BytesAt w a l) (hlen : l.length ≤ 9223372036854775807) (hcap : l.length ≤ cap) :
    Calls Try.prog 10 #[.slice a l.length cap] w fun e w' => e = .returned (.bool true) ∧ Ext w w' := by
  by_cases hb : l.length ≤ 1048576
  · have HH := Lib.hid h
    clear h
    go_enter Try.func10, Try.ntmps10
    go_wp2_with fail
    refine (drawCodeValid_c a cap l _ (HH.out.ext (by (repeat (first | exact Ext.refl _ | assumption | refine Ext.alloc ?_ _ | refine Ext.drewN ?_ _ | refine Ext.drew ?_)))) hb hcap).mono ?_
    rintro e w1 ⟨v1, n, L, rfl, o1, hn, y⟩
    have hx1 := Lib.hid (Ext.trans (show Ext w _ by (repeat (first | exact Ext.refl _ | assumption | refine Ext.alloc ?_ _ | refine Ext.drewN ?_ _ | refine Ext.drew ?_))) y)
    obtain ⟨a1, c1, rfl, i1⟩ := o1.shape
    have I1 := Lib.hid i1
    clear o1 y HH i1
    go_wp2_with fail
    refine (iCodeValid_c a1 n c1 L _ (I1.out.ext (by (repeat (first | exact Ext.refl _ | assumption | refine Ext.alloc ?_ _ | refine Ext.drewN ?_ _ | refine Ext.drew ?_)))) (by omega)).mono ?_
    rintro e w2 ⟨rfl, y⟩
    have y' := Ext.trans (show Ext w1 _ by (repeat (first | exact Ext.refl _ | assumption | refine Ext.alloc ?_ _ | refine Ext.drewN ?_ _ | refine Ext.drew ?_))) y
    have hx2 := Lib.hid (hx1.out.trans y')
    have I2 := Lib.hid (I1.out.ext y')
    clear y y' I1 hx1
    go_wp2_with fail
    refine (sCodeValid_c a1 n c1 L _ (I2.out.ext (by (repeat (first | exact Ext.refl _ | assumption | refine Ext.alloc ?_ _ | refine Ext.drewN ?_ _ | refine Ext.drew ?_)))) (by omega)).mono ?_
    rintro e w3 ⟨rfl, y⟩
    have y' := Ext.trans (show Ext w2 _ by (repeat (first | exact Ext.refl _ | assumption | refine Ext.alloc ?_ _ | refine Ext.drewN ?_ _ | refine Ext.drew ?_))) y
    have hx3 := Lib.hid (hx2.out.trans y')
    have I3 := Lib.hid (I2.out.ext y')
    clear y y' I2 hx2
    cases hcv : cvB n L
    · have hE : cvB 0 [] = false := by rfl
      have HE := Lib.hid hE
      clear hE
      go_wp2_with fail
      refine (iCodeValid_c none 0 0 [] _ (FlatAt.nil _ _) (by omega)).mono ?_
      rw [HE.out]
      rintro e w4 ⟨rfl, y⟩
      have y' := Ext.trans (show Ext w3 _ by (repeat (first | exact Ext.refl _ | assumption | refine Ext.alloc ?_ _ | refine Ext.drewN ?_ _ | refine Ext.drew ?_))) y
      have hx4 := Lib.hid (hx3.out.trans y')
      clear y y'
      go_wp2_with fail
      refine (kalive_c _).mono ?_
      rintro e w' ⟨rfl, rfl⟩
      go_wp2
      go_ret
      exact ⟨rfl, hx4.out.trans (by (repeat (first | exact Ext.refl _ | assumption | refine Ext.alloc ?_ _ | refine Ext.drewN ?_ _ | refine Ext.drew ?_)))⟩
    · have HCV := Lib.hid hcv
      have hn1 := (cvB_bounds hcv).1
      have HB := Lib.hid (cvB_bounds hcv).2.2.2
      obtain ⟨bL, oL, rfl, hbL, hcL⟩ := I3.out.cells (by omega)
      have HCL := Lib.hid hcL
      clear hcv hcL
      go_wp2
      go_loopw [5, 6] (fun v i wr => Hid (∃ k : Nat, k ≤ n ∧ i = .int .i64 k ∧ OwnF wr w3.heap.size 49 v (k + 1) (later L k) ∧ Ext w3 wr)) (fun _ i _ => n - (intOf i).toNat)
      case atStart => exact Lib.hid ⟨0, Nat.zero_le _, rfl, OwnF.lit _ _ _ _ _ _ (Nat.le_refl _), by (repeat (first | exact Ext.refl _ | assumption | refine Ext.alloc ?_ _ | refine Ext.drewN ?_ _ | refine Ext.drew ?_))⟩
      case round =>
        obtain ⟨k, hk, rfl, ho, hx⟩ := hrel.out
        have HO := Lib.hid ho
        have HX := Lib.hid hx
        obtain ⟨ao, co, rfl⟩ := ho.shape'
        have hzr := hx.size
        have hcc := hx.cells.1
        clear hrel ho
        by_cases hlt : k < n
        · obtain ⟨c0, c1', c2⟩ := HCL.out k hlt
          have hi := HB.out k hlt
          have kb := insB_kind hi
          have hS : Hid (later L (k + 1) = later L k ++ [kd L k, ag L k, lateT (kd L k) (tg L k)]) := rfl
          have hT : kd L k = 1 ∨ kd L k = 2 → 0 ≤ tg L k ∧ tg L k < n := fun hg => insB_goes hi hg
          have d0 := hx.cell' c0 hbL
          have d1 := hx.cell' c1' hbL
          have d2 := hx.cell' c2 hbL
          clear c0 c1' c2 hcc hi
          simp only [kd, ag, tg] at kb hS hT
          generalize nth L (k * 3) = K at *
          generalize nth L (k * 3 + 1) = A at *
          generalize nth L (k * 3 + 2) = T at *
          rcases (show K = 1 ∨ K = 2 ∨ (K ≠ 1 ∧ K ≠ 2) by omega) with rfl | rfl | ⟨hn1', hn2'⟩
          · have hg := hT (.inl rfl)
            have hS' : Hid (later L (k + 1) = later L k ++ [1, A, T + 1]) := by unfold Hid; rw [hS.out]; rfl
            have hwT : IntKind.i64.wrap (T + 1) = T + 1 := IntWalk.i64_in _ (by omega)
            clear hT hS
            go_wp2_with (at_builtin; refine any_append_inss (by rfl) _ _ _ rfl (w3.heap.size) 49 Try.underlying29 infoIns _ (k + 1) (later L k) rfl (HO.out.ext (by (repeat (first | exact Ext.refl _ | assumption | refine Ext.alloc ?_ _ | refine Ext.drewN ?_ _ | refine Ext.drew ?_ | refine Ext.setCell ?_ (by simp; try omega) _)))) _ (1) _ ([1, A, T + 1]) rfl (flat_new (by simp)) (by omega) (by first | omega | (simp; done) | (simp; omega)) ?_)
            intro v7 w7 o7 g7
            have X7 := Lib.hid (Ext.row (HX.out.trans (by (repeat (first | exact Ext.refl _ | assumption | refine Ext.alloc ?_ _ | refine Ext.drewN ?_ _ | refine Ext.drew ?_ | refine Ext.setCell ?_ (by simp; try omega) _)))) g7 (fun k hk => (World.ownsRow.lt HO.out k hk).1))
            have O7 := Lib.hid o7
            rw [← hS'.out] at O7
            clear o7 g7 HO HX
            go_wp2
            go_roundw
            case rel => exact Lib.hid ⟨k + 1, by omega, by go_num, O7.out, X7.out⟩
            case measure => simp [intOf]; omega
          · have hg := hT (.inr rfl)
            have hS' : Hid (later L (k + 1) = later L k ++ [2, A, T + 1]) := by unfold Hid; rw [hS.out]; rfl
            have hwT : IntKind.i64.wrap (T + 1) = T + 1 := IntWalk.i64_in _ (by omega)
            clear hT hS
            go_wp2_with (at_builtin; refine any_append_inss (by rfl) _ _ _ rfl (w3.heap.size) 49 Try.underlying29 infoIns _ (k + 1) (later L k) rfl (HO.out.ext (by (repeat (first | exact Ext.refl _ | assumption | refine Ext.alloc ?_ _ | refine Ext.drewN ?_ _ | refine Ext.drew ?_ | refine Ext.setCell ?_ (by simp; try omega) _)))) _ (1) _ ([2, A, T + 1]) rfl (flat_new (by simp)) (by omega) (by first | omega | (simp; done) | (simp; omega)) ?_)
            intro v7 w7 o7 g7
            have X7 := Lib.hid (Ext.row (HX.out.trans (by (repeat (first | exact Ext.refl _ | assumption | refine Ext.alloc ?_ _ | refine Ext.drewN ?_ _ | refine Ext.drew ?_ | refine Ext.setCell ?_ (by simp; try omega) _)))) g7 (fun k hk => (World.ownsRow.lt HO.out k hk).1))
            have O7 := Lib.hid o7
            rw [← hS'.out] at O7
            clear o7 g7 HO HX
            go_wp2
            go_roundw
            case rel => exact Lib.hid ⟨k + 1, by omega, by go_num, O7.out, X7.out⟩
            case measure => simp [intOf]; omega
          · have e1 : (K == 1) = false := by simp; omega
            have e2 : (K == 2) = false := by simp; omega
            have hS' : Hid (later L (k + 1) = later L k ++ [K, A, T]) := by unfold Hid; rw [hS.out, show lateT K T = T from if_neg (by omega)]
            clear hT hS
            go_wp2_with (at_builtin; refine any_append_inss (by rfl) _ _ _ rfl (w3.heap.size) 49 Try.underlying29 infoIns _ (k + 1) (later L k) rfl (HO.out.ext (by (repeat (first | exact Ext.refl _ | assumption | refine Ext.alloc ?_ _ | refine Ext.drewN ?_ _ | refine Ext.drew ?_ | refine Ext.setCell ?_ (by simp; try omega) _)))) _ (1) _ ([K, A, T]) rfl (flat_new (by simp)) (by omega) (by first | omega | (simp; done) | (simp; omega)) ?_)
            intro v7 w7 o7 g7
            have X7 := Lib.hid (Ext.row (HX.out.trans (by (repeat (first | exact Ext.refl _ | assumption | refine Ext.alloc ?_ _ | refine Ext.drewN ?_ _ | refine Ext.drew ?_ | refine Ext.setCell ?_ (by simp; try omega) _)))) g7 (fun k hk => (World.ownsRow.lt HO.out k hk).1))
            have O7 := Lib.hid o7
            rw [← hS'.out] at O7
            clear o7 g7 HO HX
            go_wp2
            go_roundw
            case rel => exact Lib.hid ⟨k + 1, by omega, by go_num, O7.out, X7.out⟩
            case measure => simp [intOf]; omega
        · obtain rfl : k = n := by omega
          by_cases h40 : k + 1 ≤ 40
          · have HV := Lib.hid (later_valid HCV.out h40)
            go_wp2_with fail
            refine (iCodeValid_c ao (k + 1) co (later L k) _ (HO.out.flat.ext (by (repeat (first | exact Ext.refl _ | assumption | refine Ext.alloc ?_ _ | refine Ext.drewN ?_ _ | refine Ext.drew ?_)))) (by omega)).mono ?_
            rw [HV.out]
            rintro e w4 ⟨rfl, y⟩
            have hx4 := Lib.hid (hx3.out.trans (HX.out.trans (Ext.trans (show Ext wr _ by (repeat (first | exact Ext.refl _ | assumption | refine Ext.alloc ?_ _ | refine Ext.drewN ?_ _ | refine Ext.drew ?_))) y)))
            clear y
            go_wp2
            go_ret
            exact ⟨rfl, hx4.out.trans (by (repeat (first | exact Ext.refl _ | assumption | refine Ext.alloc ?_ _ | refine Ext.drewN ?_ _ | refine Ext.drew ?_)))⟩
          · go_wp2
            go_ret
            exact ⟨rfl, hx3.out.trans (HX.out.trans (by (repeat (first | exact Ext.refl _ | assumption | refine Ext.alloc ?_ _ | refine Ext.drewN ?_ _ | refine Ext.drew ?_))))⟩
  · go_enter Try.func10, Try.ntmps10
    go_wp2
    go_ret
    exact ⟨rfl, Ext.refl _⟩
end Go.Proofs.Ytnhdachenckceaa
