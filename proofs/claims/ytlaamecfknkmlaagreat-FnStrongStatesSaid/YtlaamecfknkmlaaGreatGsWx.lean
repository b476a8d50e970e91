/- Merged texts: contracts and plain lemmas (Wx). -/
import Derived.Test.YtlaamecfknkmlaaGreatGs10
import Derived.Test.YtlaamecfknkmlaaGreatGs9
import Derived.Test.YtlaamecfknkmlaaGreatGs2
import Derived.Test.YtlaamecfknkmlaaGreatGs3
import Derived.BigQuiet
namespace Go.Proofs.YtlaamecfknkmlaaGreat
set_option linter.unusedVariables false
open Go.RowKit Go.Kt
theorem sTestNot_c (T : Nat) (w : World) (hT : T < 16) :
    Calls Tryz.prog 148 #[.int .i64 T] w fun e w' => e = .returned (.int .i64 ((15 - T : Nat) : Int)) ∧ w = w' := by
  have ht : inB (T : Int) 0 15 = true := by simp [inB]; omega
  have h1 : IntKind.i64.wrap (15 - (T : Int)) = ((15 - T : Nat) : Int) := by rw [IntWalk.i64_in _ (by omega)]; omega
  go_enter Tryz.func148, Tryz.ntmps148
  go_wp2_with (go_at_call 147; refine (sTestValid_c _ _).mono ?_; rw [ht]; rintro e w' ⟨rfl, rfl⟩)
  go_ret
  exact ⟨by first | rfl | (simp; omega), rfl⟩
def RetWs (w : World) (r : Ending) (w' : World) : Prop := ∃ n : Int, r = .returned (.int .i64 n) ∧ Ext w w' ∧ (n = -1 ∨ ∃ W : Nat, n = W ∧ W < 16)
set_option maxRecDepth 100000 in
set_option maxHeartbeats 8000000 in
theorem sWeakTest_c (a : Option Addr) (c : Nat) (e : List Int) (t : Int) (w : World) (he : IntsAt w a e) (hle : e.length ≤ 4194304) :
    Calls Tryz.prog 89 #[.slice a e.length c, .int .i64 t] w (RetWs w) := by
  have CA : Hid (∀ w', Ext w w' → Calls Tryz.prog 59 #[.slice a e.length c] w' (RetAu w' e)) := fun w' x => sAutoOf_c a c e w' (he.ext x) hle
  clear he
  cases hb : auB e
  · have HE : Hid ((auE e).length = 0) := by unfold Hid; rw [auE_off hb]; rfl
    clear hb
    generalize e.length = ne at *
    go_enter Tryz.func89, Tryz.ntmps89
    go_wp2_with fail
    refine (CA.out _ (by (repeat (first | exact Ext.refl _ | assumption | refine Ext.alloc ?_ _ | refine Ext.drewN ?_ _ | refine Ext.drew ?_)))).mono ?_
    rintro r w1 ⟨a1, c1, a2, c2, rfl, -, x1⟩
    rw [HE.out]
    have X1 := Lib.hid (Ext.trans (show Ext w _ by (repeat (first | exact Ext.refl _ | assumption | refine Ext.alloc ?_ _ | refine Ext.drewN ?_ _ | refine Ext.drew ?_))) x1)
    clear x1
    go_wp2
    go_ret
    exact ⟨-1, rfl, X1.out.trans (by (repeat (first | exact Ext.refl _ | assumption | refine Ext.alloc ?_ _ | refine Ext.drewN ?_ _ | refine Ext.drew ?_))), .inl rfl⟩
  · have hpos := auE_pos hb
    have hne : ((((auE e).length : Nat) : Int) == 0) = false := by rw [beq_eq_false_iff_ne]; omega
    cases ht : inB t 0 15
    · have HT := Lib.hid ht
      clear ht hb
      generalize e.length = ne at *
      go_enter Tryz.func89, Tryz.ntmps89
      go_wp2_with fail
      refine (CA.out _ (by (repeat (first | exact Ext.refl _ | assumption | refine Ext.alloc ?_ _ | refine Ext.drewN ?_ _ | refine Ext.drew ?_)))).mono ?_
      rintro r w1 ⟨a1, c1, a2, c2, rfl, -, x1⟩
      have X1 := Lib.hid (Ext.trans (show Ext w _ by (repeat (first | exact Ext.refl _ | assumption | refine Ext.alloc ?_ _ | refine Ext.drewN ?_ _ | refine Ext.drew ?_))) x1)
      clear x1
      generalize (auE e).length = nE at *
      go_wp2_with (go_at_call 147; refine (sTestValid_c _ _).mono ?_; rw [HT.out]; rintro e w' ⟨rfl, rfl⟩)
      go_ret
      exact ⟨-1, rfl, X1.out.trans (by (repeat (first | exact Ext.refl _ | assumption | refine Ext.alloc ?_ _ | refine Ext.drewN ?_ _ | refine Ext.drew ?_))), .inl rfl⟩
    · have hb1 : 0 ≤ t ∧ t ≤ 15 := by simpa [inB] using ht
      obtain ⟨T, rfl⟩ := Int.eq_ofNat_of_zero_le hb1.1
      have hT : T < 16 := by omega
      have hA := auto_of e
      have hten := hA.ten
      have HA := Lib.hid hA
      have HLen := Lib.hid hA.len
      have HT := Lib.hid ht
      clear ht hb hA hb1
      generalize e.length = ne at *
      go_enter Tryz.func89, Tryz.ntmps89
      go_wp2_with fail
      refine (CA.out _ (by (repeat (first | exact Ext.refl _ | assumption | refine Ext.alloc ?_ _ | refine Ext.drewN ?_ _ | refine Ext.drew ?_)))).mono ?_
      rintro r w1 ⟨a1, c1, a2, c2, rfl, r1, x1⟩
      have X1 := Lib.hid (Ext.trans (show Ext w _ by (repeat (first | exact Ext.refl _ | assumption | refine Ext.alloc ?_ _ | refine Ext.drewN ?_ _ | refine Ext.drew ?_))) x1)
      have RI := Lib.hid r1.1.ints
      have RN := Lib.hid r1.2.rows
      clear r1 x1 CA
      rw [HLen.out]
      generalize auN e = N at *
      generalize auE e = E at *
      generalize hnE : E.length = nE at *
      have HnE := Lib.hid hnE
      clear hnE
      go_wp2_with (go_at_call 147; refine (sTestValid_c _ _).mono ?_; rw [HT.out]; rintro e w' ⟨rfl, rfl⟩)
      have HBox : Hid (∀ w', Ext (w1.alloc (.cells #[.slice a1 nE c1, .slice a2 nE c2] 63)) w' → w'.cell? ⟨w1.heap.size, 0, none⟩ = some (.slice a1 nE c1) ∧ w'.cell? ⟨w1.heap.size, 1, none⟩ = some (.slice a2 nE c2)) := fun w' x =>
        ⟨x.cell' (by simp [go_sem]) (by simp), x.cell' (by simp [go_sem]) (by simp)⟩
      have X1B : Hid (Ext w1 (w1.alloc (.cells #[.slice a1 nE c1, .slice a2 nE c2] 63))) := (Ext.refl _).alloc _
      obtain ⟨bE, oE, pE, qE⟩ := RI.out
      obtain ⟨rfl, hbE⟩ := pE (by rw [HnE.out]; omega)
      have HQE : Hid (∀ k, k < nE → w1.cell? ⟨bE, oE + k, none⟩ = some (.int .i64 ((natAt E k : Nat) : Int)) ∧ natAt E k < 16) := fun k hk => by
        have h1 := qE k (by rw [HnE.out]; exact hk)
        have h2 := HA.out.ends k (by rw [HnE.out]; exact hk)
        have h5 : nth E k = ((natAt E k : Nat) : Int) := by unfold natAt; omega
        rw [h5] at h1
        exact ⟨h1, by unfold natAt; omega⟩
      obtain ⟨bN, oN, pN, qN⟩ := RN.out
      obtain ⟨rfl, hbN⟩ := pN (by rw [HLen.out]; omega)
      have HQN : Hid (∀ k, k < nE → ∃ bR oR ci, bR < w1.heap.size ∧ w1.cell? ⟨bN, oN + k, none⟩ = some (.slice (some ⟨bR, oR, none⟩) 12 ci) ∧ ∀ u, u < 12 → w1.cell? ⟨bR, oR + u, none⟩ = some (.int .i64 ((natAt (rowI N k) u : Nat) : Int)) ∧ natAt (rowI N k) u < 1024) := fun k hk => by
        obtain ⟨ai, ci, cN, bR, oR, pR, qR⟩ := qN k (by rw [HLen.out]; exact hk)
        have hrow := HA.out.row k (by rw [HnE.out]; exact hk)
        obtain ⟨rfl, hbR⟩ := pR (by omega)
        rw [hrow] at cN
        refine ⟨bR, oR, ci, hbR, cN, fun u hu => ?_⟩
        have h1 := qR u (by rw [hrow]; exact hu)
        have h2 := HA.out.next k (by rw [HnE.out]; exact hk) u hu
        have h3 := HA.out.nat (s := k) (m := u) (by rw [HnE.out]; exact hk) hu
        have h4 := two_10 HA.out
        have h5 : nth (rowI N k) u = ((natAt (rowI N k) u : Nat) : Int) := by unfold natAt; omega
        rw [h5] at h1
        exact ⟨h1, by omega⟩
      clear pE qE pN qN RI RN HA HLen
      have CNot : Hid (∀ w', Calls Tryz.prog 148 #[.int .i64 T] w' fun e w'' => e = .returned (.int .i64 ((15 - T : Nat) : Int)) ∧ w' = w'') := fun w' => sTestNot_c T w' hT
      obtain ⟨nT, hnT⟩ : ∃ nT, nT = 15 - T := ⟨_, rfl⟩
      rw [← hnT] at CNot
      have hnT16 : nT < 16 := by omega
      clear hnT
      have CB : Hid (∀ (x y : Nat) w', x < 4294967296 → y < 4294967296 → Calls Tryz.prog 90 #[.int .i64 x, .int .i64 y] w' fun e w'' => e = .returned (.int .i64 (andN x y : Nat)) ∧ w' = w'') := fun x y w' hx hy => l1Both_c x y w' hx hy
      go_loopw [6, 7] (fun bd i wr => Hid (∃ (k bad : Nat), k ≤ nE + 1 ∧ i = .int .i64 k ∧ bd = .int .i64 bad ∧ bad < 1024 ∧ Ext (w1.alloc (.cells #[.slice (some ⟨bE, oE, none⟩) nE c1, .slice (some ⟨bN, oN, none⟩) nE c2] 63)) wr)) (fun _ i _ => nE + 1 - (intOf i).toNat)
      case atStart => exact Lib.hid ⟨0, 0, by omega, rfl, rfl, by omega, Ext.refl _⟩
      case round =>
        obtain ⟨n, bad, hn, rfl, rfl, hbad, hx⟩ := hrel.out
        have HX := Lib.hid hx
        clear hrel hx
        obtain ⟨kb0, kb1⟩ := HBox.out wr HX.out
        have zb := lt_of_cell kb0
        by_cases hnn : n ≤ nE
        · have hni : (n : Int) ≤ (nE : Int) := by omega
          go_wp2
          clear kb0 kb1 zb
          obtain ⟨wo, hwo⟩ : ∃ wo, wo = wr := ⟨_, rfl⟩
          subst hwo
          go_loopw [6, 8] (fun bd i wr => Hid (∃ (k bad : Nat), k ≤ nE ∧ i = .int .i64 k ∧ bd = .int .i64 bad ∧ bad < 1024 ∧ Ext (w1.alloc (.cells #[.slice (some ⟨bE, oE, none⟩) nE c1, .slice (some ⟨bN, oN, none⟩) nE c2] 63)) wr)) (fun _ i _ => nE - (intOf i).toNat)
          case atStart => exact Lib.hid ⟨0, bad, by omega, rfl, rfl, hbad, HX.out⟩
          case round =>
            obtain ⟨k, bad2, hk, rfl, rfl, hbad2, hx2⟩ := hrel.out
            have HX2 := Lib.hid hx2
            clear hrel hx2 HX hbad
            obtain ⟨kb0, kb1⟩ := HBox.out wr HX2.out
            have zb := lt_of_cell kb0
            by_cases hkn : k < nE
            · have hki : (k : Int) < (nE : Int) := by omega
              obtain ⟨he1, he2⟩ := HQE.out k hkn
              have ke := (X1B.out.trans HX2.out).cell' he1 hbE
              have ze := lt_of_cell ke
              have CB1 := Lib.hid (fun w' => CB.out (natAt E k) nT w' (by omega) (by omega))
              clear he1
              generalize natAt E k = x at *
              by_cases h0 : 0 < andN x nT
              all_goals
                first
                  | (have h0i : (0 : Int) < ((andN x nT : Nat) : Int) := by omega)
                  | (have h0i : ¬ ((0 : Int) < ((andN x nT : Nat) : Int)) := by omega)
                generalize andN x nT = xy at *
                go_wp2
                go_quiet ((first | (go_at_call 148; exact quiet_same (CNot.out _)) | (go_at_call 90; exact quiet_same (CB1.out _))))
                go_wp2
                clear kb0 kb1 zb ke ze CB1
                obtain ⟨wp, hwp⟩ : ∃ wp, wp = wr := ⟨_, rfl⟩
                subst hwp
                go_loopw [9, 10] (fun sm i wr => Hid (∃ (m : Nat) (sb : Bool), m ≤ 12 ∧ i = .int .i64 m ∧ sm = .bool sb ∧ Ext wp wr)) (fun _ i _ => 12 - (intOf i).toNat)
                case atStart => exact Lib.hid ⟨0, _, by omega, rfl, rfl, by (repeat (first | exact Ext.refl _ | assumption | refine Ext.alloc ?_ _ | refine Ext.drewN ?_ _ | refine Ext.drew ?_))⟩
                case round =>
                  obtain ⟨m, sb, hm, rfl, rfl, hx3⟩ := hrel.out
                  have HX3 := Lib.hid (HX2.out.trans hx3)
                  have HP3 := Lib.hid hx3
                  clear hrel hx3
                  by_cases hm12 : m < 12
                  · have hmi : (m : Int) < 12 := by omega
                    cases sb
                    · obtain ⟨bR, oR, ci, hbR, cN, hq⟩ := HQN.out k hkn
                      obtain ⟨kb0, kb1⟩ := HBox.out wr HX3.out
                      have zb := lt_of_cell kb0
                      have kn := (X1B.out.trans HX3.out).cell' cN hbN
                      have kr := (X1B.out.trans HX3.out).cell' (hq m hm12).1 hbR
                      have hy := (hq m hm12).2
                      have CB2 := Lib.hid (fun w' => CB.out (natAt (rowI N k) m) bad2 w' (by omega) (by omega))
                      clear hq cN
                      generalize natAt (rowI N k) m = y at *
                      by_cases h1 : 0 < andN y bad2
                      all_goals
                        first
                          | (have h1i : (0 : Int) < ((andN y bad2 : Nat) : Int) := by omega)
                          | (have h1i : ¬ ((0 : Int) < ((andN y bad2 : Nat) : Int)) := by omega)
                        generalize andN y bad2 = yb at *
                        go_wp2_with (go_at_call 90; refine (CB2.out _).mono ?_; rintro e w' ⟨rfl, rfl⟩)
                        go_roundw
                        case rel => exact Lib.hid ⟨m + 1, _, by omega, by go_num, rfl, HP3.out.trans (by (repeat (first | exact Ext.refl _ | assumption | refine Ext.alloc ?_ _ | refine Ext.drewN ?_ _ | refine Ext.drew ?_)))⟩
                        case measure => simp [intOf]; omega
                    · go_wp2
                      go_roundw
                      case rel => exact Lib.hid ⟨m + 1, true, by omega, by go_num, rfl, HP3.out.trans (by (repeat (first | exact Ext.refl _ | assumption | refine Ext.alloc ?_ _ | refine Ext.drewN ?_ _ | refine Ext.drew ?_)))⟩
                      case measure => simp [intOf]; omega
                  · obtain rfl : m = 12 := by omega
                    cases sb
                    · go_wp2
                      go_roundw
                      case rel => exact Lib.hid ⟨k + 1, bad2, by omega, by go_num, rfl, hbad2, HX3.out.trans (by (repeat (first | exact Ext.refl _ | assumption | refine Ext.alloc ?_ _ | refine Ext.drewN ?_ _ | refine Ext.drew ?_)))⟩
                      case measure => simp [intOf]; omega
                    · have hpc := pow2_cast k
                      have hp1 : pow2 k < 1024 := pow2_lt k 10 (by omega)
                      have hor : orN bad2 (pow2 k) < 2 ^ 10 := orN_lt hbad2 hp1
                      have CO : Hid (∀ w', Calls Tryz.prog 122 #[.int .i64 bad2, .int .i64 (pow2 k : Nat)] w' fun e w'' => e = .returned (.int .i64 (orN bad2 (pow2 k) : Nat)) ∧ w' = w'') := fun w' => l1Either_c _ _ w' (by omega) (by omega)
                      have hw : IntKind.i64.wrap ((pow2 k : Nat) : Int) = ((pow2 k : Nat) : Int) := IntWalk.i64_in _ (by omega)
                      generalize orN bad2 (pow2 k) = bo at *
                      go_wp2_with (go_at_call 122; refine (CO.out _).mono ?_; rintro e w' ⟨rfl, rfl⟩)
                      go_roundw
                      case rel => exact Lib.hid ⟨k + 1, bo, by omega, by go_num, rfl, hor, HX3.out.trans (by (repeat (first | exact Ext.refl _ | assumption | refine Ext.alloc ?_ _ | refine Ext.drewN ?_ _ | refine Ext.drew ?_)))⟩
                      case measure => simp [intOf]; omega
            · obtain rfl : k = nE := by omega
              go_wp2
              go_roundw
              case rel => exact Lib.hid ⟨n + 1, bad2, by omega, by go_num, rfl, hbad2, HX2.out.trans (by (repeat (first | exact Ext.refl _ | assumption | refine Ext.alloc ?_ _ | refine Ext.drewN ?_ _ | refine Ext.drew ?_)))⟩
              case measure => simp [intOf]; omega
        · have hni : ¬ ((n : Int) ≤ (nE : Int)) := by omega
          go_wp2
          clear kb0 kb1 zb
          obtain ⟨wo, hwo⟩ : ∃ wo, wo = wr := ⟨_, rfl⟩
          subst hwo
          go_loopw [11, 12] (fun o i wr => Hid (∃ (k O : Nat), k ≤ 4 ∧ i = .int .i64 k ∧ o = .int .i64 O ∧ O < pow2 k ∧ Ext (w1.alloc (.cells #[.slice (some ⟨bE, oE, none⟩) nE c1, .slice (some ⟨bN, oN, none⟩) nE c2] 63)) wr)) (fun _ i _ => 4 - (intOf i).toNat)
          case atStart => exact Lib.hid ⟨0, 0, by omega, rfl, rfl, by decide, HX.out⟩
          case round =>
            obtain ⟨k, O, hk, rfl, rfl, hO, hx2⟩ := hrel.out
            have HX2 := Lib.hid hx2
            have HO := Lib.hid hO
            clear hrel hx2 HX hO
            by_cases hk4 : k < 4
            · have hki : (k : Int) ≤ 3 := by omega
              obtain ⟨kb0, kb1⟩ := HBox.out wr HX2.out
              have zb := lt_of_cell kb0
              obtain ⟨he1, he2⟩ := HQE.out 0 (by omega)
              rw [Nat.add_zero] at he1
              have ke := (X1B.out.trans HX2.out).cell' he1 hbE
              have ze := lt_of_cell ke
              have CB1 := Lib.hid (fun w' => CB.out (natAt E 0) nT w' (by omega) (by omega))
              clear he1
              generalize natAt E 0 = x at *
              have hxy : andN x nT < 4294967296 := by have := andN_le x nT; omega
              have CT : Hid (∀ w', Calls Tryz.prog 107 #[.int .i64 (andN x nT : Nat), .int .i64 k] w' fun e w'' => e = .returned (.int .i64 (((andN x nT).testBit k).toNat : Nat)) ∧ w' = w'') := fun w' => l1Bit_c _ k w' hxy (by omega)
              generalize (andN x nT).testBit k = tb at *
              generalize andN x nT = xy at *
              cases tb
              all_goals
                (first | rw [show ((true.toNat : Nat) : Int) = 1 from rfl] at CT | rw [show ((false.toNat : Nat) : Int) = 0 from rfl] at CT)
                go_wp2
                go_quiet ((first | (go_at_call 148; exact quiet_same (CNot.out _)) | (go_at_call 90; exact quiet_same (CB1.out _)) | (go_at_call 107; exact quiet_same (CT.out _))))
                go_wp2
                clear kb0 kb1 zb ke ze CB1 CT
                obtain ⟨wp, hwp⟩ : ∃ wp, wp = wr := ⟨_, rfl⟩
                subst hwp
                go_loopw [13, 14] (fun sm i wr => Hid (∃ (m : Nat) (sb : Bool), m ≤ 3 ∧ i = .int .i64 m ∧ sm = .bool sb ∧ Ext wp wr)) (fun _ i _ => 3 - (intOf i).toNat)
                case atStart => exact Lib.hid ⟨0, _, by omega, rfl, rfl, by (repeat (first | exact Ext.refl _ | assumption | refine Ext.alloc ?_ _ | refine Ext.drewN ?_ _ | refine Ext.drew ?_))⟩
                case round =>
                  obtain ⟨m, sb, hm, rfl, rfl, hx3⟩ := hrel.out
                  have HX3 := Lib.hid (HX2.out.trans hx3)
                  have HP3 := Lib.hid hx3
                  clear hrel hx3
                  by_cases hm3 : m < 3
                  · have hmi : (m : Int) < 3 := by omega
                    cases sb
                    · obtain ⟨bR, oR, ci, hbR, cN, hq⟩ := HQN.out 0 (by omega)
                      rw [Nat.add_zero] at cN
                      obtain ⟨kb0, kb1⟩ := HBox.out wr HX3.out
                      have zb := lt_of_cell kb0
                      obtain ⟨u, hu⟩ : ∃ u, u = 3 * k + m := ⟨_, rfl⟩
                      have hu12 : u < 12 := by omega
                      have hu12i : (u : Int) < 12 := by omega
                      have hwm : IntKind.i64.wrap (3 * (k : Int)) = 3 * (k : Int) := IntWalk.i64_in _ (by omega)
                      have hwa : IntKind.i64.wrap (3 * (k : Int) + (m : Int)) = (u : Int) := by rw [IntWalk.i64_in _ (by omega)]; omega
                      have hua : 3 * (k : Int) + (m : Int) = (u : Int) := by omega
                      have kn := (X1B.out.trans HX3.out).cell' cN hbN
                      have kr := (X1B.out.trans HX3.out).cell' (hq u hu12).1 hbR
                      have hy := (hq u hu12).2
                      have CB2 := Lib.hid (fun w' => CB.out (natAt (rowI N 0) u) bad w' (by omega) (by omega))
                      clear hq cN hu
                      generalize natAt (rowI N 0) u = y at *
                      by_cases h1 : 0 < andN y bad
                      all_goals
                        first
                          | (have h1i : (0 : Int) < ((andN y bad : Nat) : Int) := by omega)
                          | (have h1i : ¬ ((0 : Int) < ((andN y bad : Nat) : Int)) := by omega)
                        generalize andN y bad = yb at *
                        go_wp2_with (go_at_call 90; refine (CB2.out _).mono ?_; rintro e w' ⟨rfl, rfl⟩)
                        go_roundw
                        case rel => exact Lib.hid ⟨m + 1, _, by omega, by go_num, rfl, HP3.out.trans (by (repeat (first | exact Ext.refl _ | assumption | refine Ext.alloc ?_ _ | refine Ext.drewN ?_ _ | refine Ext.drew ?_)))⟩
                        case measure => simp [intOf]; omega
                    · go_wp2
                      go_roundw
                      case rel => exact Lib.hid ⟨m + 1, true, by omega, by go_num, rfl, HP3.out.trans (by (repeat (first | exact Ext.refl _ | assumption | refine Ext.alloc ?_ _ | refine Ext.drewN ?_ _ | refine Ext.drew ?_)))⟩
                      case measure => simp [intOf]; omega
                  · obtain rfl : m = 3 := by omega
                    have hps : pow2 (k + 1) = pow2 k + pow2 k := by unfold pow2; rw [Nat.pow_succ]; omega
                    have HPs := Lib.hid hps
                    clear hps
                    cases sb
                    · have hpc := pow2_cast k
                      have hp1 : pow2 k ≤ 8 := pow2_le k 3 (by omega)
                      have hO2 := HO.out
                      have hw : IntKind.i64.wrap ((pow2 k : Nat) : Int) = ((pow2 k : Nat) : Int) := IntWalk.i64_in _ (by omega)
                      have hw2 : IntKind.i64.wrap ((O : Int) + ((pow2 k : Nat) : Int)) = (O : Int) + ((pow2 k : Nat) : Int) := IntWalk.i64_in _ (by omega)
                      go_wp2
                      go_roundw
                      case rel => exact Lib.hid ⟨k + 1, O + pow2 k, by omega, by go_num, by go_num, by rw [HPs.out]; omega, HX3.out.trans (by (repeat (first | exact Ext.refl _ | assumption | refine Ext.alloc ?_ _ | refine Ext.drewN ?_ _ | refine Ext.drew ?_)))⟩
                      case measure => simp [intOf]; omega
                    · go_wp2
                      go_roundw
                      case rel => exact Lib.hid ⟨k + 1, O, by omega, by go_num, rfl, by rw [HPs.out]; have := HO.out; omega, HX3.out.trans (by (repeat (first | exact Ext.refl _ | assumption | refine Ext.alloc ?_ _ | refine Ext.drewN ?_ _ | refine Ext.drew ?_)))⟩
                      case measure => simp [intOf]; omega
            · obtain rfl : k = 4 := by omega
              go_wp2
              go_ret
              exact ⟨(O : Int), rfl, X1.out.trans (X1B.out.trans (HX2.out.trans (by (repeat (first | exact Ext.refl _ | assumption | refine Ext.alloc ?_ _ | refine Ext.drewN ?_ _ | refine Ext.drew ?_))))), .inr ⟨O, rfl, HO.out⟩⟩
end Go.Proofs.YtlaamecfknkmlaaGreat
