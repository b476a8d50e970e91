/- For all bytes: of the code that DrawCodeReached draws of them the program reaches what the reference reaches; the first instruction is reached; of an instruction that is, but for a jump or an end, the one behind is (FnCodeReached). -/
import Derived.Test.YtnhdachenckceaaDc
import Derived.Test.YtnhdachenckceaaCe
import Derived.Test.YtnhdachenckceaaFrame
namespace Go.Proofs.Ytnhdachenckceaa
set_option linter.unusedVariables false
open Go.RowKit Go.Kt

theorem reach_next {n : Nat} {L : List Int} (hv : cvB n L = true) {k : Nat} (hk : k < n) (h : nthB (reachL n L) k = true) (hd : kd L k < 2) : k + 1 < n ∧ nthB (reachL n L) (k + 1) = true := by
  obtain ⟨h1, h40, hlast, hall⟩ := cvB_bounds hv
  have hr := (reachL_get n L k hk).1 h
  have hk1 : k + 1 < n := by
    rcases Nat.lt_or_ge (k + 1) n with h | h
    · exact h
    · have : k = n - 1 := by omega
      subst this; omega
  exact ⟨hk1, (reachL_get n L (k + 1) hk1).2 (Reach.fall k hr hd)⟩
set_option maxHeartbeats 1000000 in
theorem fnCodeReached_c (a : Option Addr) (cap : Nat) (l : List Int) (w : World) (h : BytesAt w a l) (hlen : l.length ≤ 9223372036854775807) (hcap : l.length ≤ cap) :
    Calls Try.prog 14 #[.slice a l.length cap] w fun e w' => e = .returned (.bool true) ∧ Ext w w' := by
  by_cases hb : l.length ≤ 1048576
  · have HH := Lib.hid h
    clear h
    go_enter Try.func14, Try.ntmps14
    go_wp2_with fail
    refine (drawCodeReached_c a cap l _ (HH.out.ext (by (repeat (first | exact Ext.refl _ | assumption | refine Ext.alloc ?_ _ | refine Ext.drewN ?_ _ | refine Ext.drew ?_)))) hb hcap).mono ?_
    rintro e w1 ⟨v1, n, L, rfl, o1, hn, y⟩
    have hx1 := Lib.hid (Ext.trans (show Ext w _ by (repeat (first | exact Ext.refl _ | assumption | refine Ext.alloc ?_ _ | refine Ext.drewN ?_ _ | refine Ext.drew ?_))) y)
    obtain ⟨a1, c1, rfl, i1⟩ := o1.shape
    have I1 := Lib.hid i1
    clear o1 y HH i1
    go_wp2_with fail
    refine (iCodeReached_c a1 n c1 L _ (I1.out.ext (by (repeat (first | exact Ext.refl _ | assumption | refine Ext.alloc ?_ _ | refine Ext.drewN ?_ _ | refine Ext.drew ?_)))) (by omega)).mono ?_
    rintro e w2 ⟨v2, rfl, o2, y⟩
    have y' := Ext.trans (show Ext w1 _ by (repeat (first | exact Ext.refl _ | assumption | refine Ext.alloc ?_ _ | refine Ext.drewN ?_ _ | refine Ext.drew ?_))) y
    have hx2 := Lib.hid (hx1.out.trans y')
    have I2 := Lib.hid (I1.out.ext y')
    obtain ⟨a2, c2, rfl, b2⟩ := o2.shape
    have B2 := Lib.hid b2
    clear o2 y y' b2 I1 hx1
    go_wp2_with fail
    refine (sCodeReached_c a1 n c1 L _ (I2.out.ext (by (repeat (first | exact Ext.refl _ | assumption | refine Ext.alloc ?_ _ | refine Ext.drewN ?_ _ | refine Ext.drew ?_)))) (by omega)).mono ?_
    rintro e w3 ⟨v3, rfl, o3, y⟩
    have y' := Ext.trans (show Ext w2 _ by (repeat (first | exact Ext.refl _ | assumption | refine Ext.alloc ?_ _ | refine Ext.drewN ?_ _ | refine Ext.drew ?_))) y
    have hx3 := Lib.hid (hx2.out.trans y')
    have I3 := Lib.hid (I2.out.ext y')
    have B3 := Lib.hid (B2.out.ext y')
    obtain ⟨a3, c3, rfl, b3⟩ := o3.shape
    have C3 := Lib.hid b3
    have hl40 : (rcF n L).length ≤ 42 := by
      unfold rcF
      split
      · rw [reachL_length]; exact hn
      · simp
    clear o3 y y' b3 I2 B2 hx2
    go_wp2_with fail
    refine (sameBools_c a2 a3 c2 c3 (rcF n L) _ (B3.out.ext (by (repeat (first | exact Ext.refl _ | assumption | refine Ext.alloc ?_ _ | refine Ext.drewN ?_ _ | refine Ext.drew ?_)))) (C3.out.ext (by (repeat (first | exact Ext.refl _ | assumption | refine Ext.alloc ?_ _ | refine Ext.drewN ?_ _ | refine Ext.drew ?_)))) (by omega)).mono ?_
    rintro e w4 ⟨rfl, y⟩
    have y' := Ext.trans (show Ext w3 _ by (repeat (first | exact Ext.refl _ | assumption | refine Ext.alloc ?_ _ | refine Ext.drewN ?_ _ | refine Ext.drew ?_))) y
    have hx4 := Lib.hid (hx3.out.trans y')
    have I4 := Lib.hid (I3.out.ext y')
    have B4 := Lib.hid (B3.out.ext y')
    clear y y' I3 B3 hx3 C3
    go_wp2_with fail
    refine (sCodeValid_c a1 n c1 L _ (I4.out.ext (by (repeat (first | exact Ext.refl _ | assumption | refine Ext.alloc ?_ _ | refine Ext.drewN ?_ _ | refine Ext.drew ?_)))) (by omega)).mono ?_
    rintro e w5 ⟨rfl, y⟩
    have y' := Ext.trans (show Ext w4 _ by (repeat (first | exact Ext.refl _ | assumption | refine Ext.alloc ?_ _ | refine Ext.drewN ?_ _ | refine Ext.drew ?_))) y
    have hx5 := Lib.hid (hx4.out.trans y')
    have I5 := Lib.hid (I4.out.ext y')
    have B5 := Lib.hid (B4.out.ext y')
    clear y y' I4 B4 hx4
    cases hcv : cvB n L
    · have hR : rcF n L = [] := by unfold rcF; rw [hcv]; rfl
      rw [hR] at B5
      rw [hR]
      clear hcv hR hl40
      go_wp2_with fail
      refine (kalive_c _).mono ?_
      rintro e w' ⟨rfl, rfl⟩
      go_wp2
      go_ret
      exact ⟨rfl, hx5.out.trans (by (repeat (first | exact Ext.refl _ | assumption | refine Ext.alloc ?_ _ | refine Ext.drewN ?_ _ | refine Ext.drew ?_)))⟩
    · have hR : rcF n L = reachL n L := by unfold rcF; rw [hcv]; rfl
      have hn1 := (cvB_bounds hcv).1
      have HN := Lib.hid fun (k : Nat) (hk : k < n) (h : nthB (reachL n L) k = true) (hd : kd L k < 2) => reach_next hcv hk h hd
      have H0 := Lib.hid ((reachL_get n L 0 (by omega)).2 .start)
      have HLn := Lib.hid (reachL_length n L)
      rw [hR] at B5 hl40
      rw [hR]
      obtain ⟨R, hRn⟩ : ∃ R, R = reachL n L := ⟨_, rfl⟩
      rw [← hRn] at HN H0 HLn B5
      rw [← hRn]
      clear hcv hR hRn hl40
      obtain ⟨bR, oR, hR1, hR2⟩ := B5.out
      obtain ⟨rfl, hbR⟩ := hR1 (by rw [HLn.out]; omega)
      rw [HLn.out] at hR2
      rw [HLn.out]
      obtain ⟨bL, oL, rfl, hbL, hcL⟩ := I5.out.cells (by omega)
      have HR2 := Lib.hid hR2
      have HCL := Lib.hid hcL
      clear hR1 hR2 hcL B5 I5
      go_wp2
      go_loop [5] (fun i => ∃ k : Nat, k ≤ n ∧ i = .int .i64 k) (fun i => n - (intOf i).toNat)
      case atStart => exact ⟨0, Nat.zero_le _, rfl⟩
      case round =>
        obtain ⟨k, hk, rfl⟩ := hrel
        by_cases hlt : k < n
        · have c0 := HR2.out k hlt
          obtain ⟨c1, -, -⟩ := HCL.out k hlt
          cases hq : nthB R k
          · rw [hq] at c0
            have HQ := Lib.hid hq
            clear hq
            go_wp2
            go_round
            case rel => exact ⟨k + 1, by omega, by go_num⟩
            case measure => simp [intOf]; omega
          · rw [hq] at c0
            have HQ := Lib.hid hq
            clear hq
            by_cases hd : kd L k < 2
            · obtain ⟨hk1, hq1⟩ := HN.out k hlt HQ.out hd
              have c2 := HR2.out (k + 1) hk1
              rw [hq1] at c2
              have hd2 : decide (nth L (k * 3) < 2) = true := by simpa [kd] using hd
              have hd3 : nth L (k * 3) < 2 := hd
              clear hq1 hd
              generalize nth L (k * 3) = K at *
              go_wp2
              go_round
              case rel => exact ⟨k + 1, by omega, by go_num⟩
              case measure => simp [intOf]; omega
            · have hd2 : decide (nth L (k * 3) < 2) = false := by simpa [kd] using hd
              have hd3 : ¬ nth L (k * 3) < 2 := hd
              clear hd
              generalize nth L (k * 3) = K at *
              go_wp2
              go_round
              case rel => exact ⟨k + 1, by omega, by go_num⟩
              case measure => simp [intOf]; omega
        · obtain rfl : k = n := by omega
          have c0 := HR2.out 0 (by omega)
          rw [H0.out, Nat.add_zero] at c0
          have hk0 : 0 < k := by omega
          have hkk : ((k : Int) == (k : Int)) = true := by simp
          go_wp2
          go_ret
          exact ⟨rfl, hx5.out.trans (by (repeat (first | exact Ext.refl _ | assumption | refine Ext.alloc ?_ _ | refine Ext.drewN ?_ _ | refine Ext.drew ?_)))⟩
  · go_enter Try.func14, Try.ntmps14
    go_wp2
    go_ret
    exact ⟨rfl, Ext.refl _⟩
end Go.Proofs.Ytnhdachenckceaa
