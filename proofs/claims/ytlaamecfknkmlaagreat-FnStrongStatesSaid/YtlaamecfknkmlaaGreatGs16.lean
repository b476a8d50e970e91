/- Merged texts: contracts and plain lemmas (Wm, Wy). -/
import Derived.Test.YtlaamecfknkmlaaGreatGsWz
import Derived.Test.YtlaamecfknkmlaaGreatGs13
import Derived.Test.YtlaamecfknkmlaaGreatGsAx
import Derived.Test.YtlaamecfknkmlaaGreatGs3
import Derived.Deep.RegionHeld3
import Derived.Maps.RangeWalk
namespace Go.Proofs.YtlaamecfknkmlaaGreat
set_option linter.unusedVariables false
open Go.RowKit Go.Kt
/-- How many places are in a map. -/
def sizeU (w : World) (b : Nat) : Nat := match w.heap[b]? with | some (.map es _) => es.size | _ => 0
theorem SetU.size {w : World} {b : Nat} {S : List (Nat × Nat)} (h : SetU w b S) : sizeU w b = S.length := by
  unfold sizeU; rw [h.1]; simp [entP, entL_length]
/-- What is left of the search. -/
def leftU (ch : Value) (w : World) (b : Nat) : Nat := match ch with | .bool true => 41 - sizeU w b | _ => 0
theorem leftU_true (w : World) (b : Nat) : leftU (.bool true) w b = 41 - sizeU w b := rfl
theorem leftU_false (w : World) (b : Nat) : leftU (.bool false) w b = 0 := rfl
/-- Within one round of the search. -/
def WkSt (E : List Int) (N : List (List Int)) (T : Nat) (S0 : List (Nat × Nat)) (b : Nat) (wB wr : World) (k m : Nat) (ch : Bool) : Prop :=
  ∃ S, SetU wr b S ∧ Places E.length S ∧ Ext wB wr ∧ (ch = true → S0.length < S.length) ∧ (ch = false → S = S0 ∧ Done E N T S0 k m)
/-- Between the rounds. -/
def WkO (E : List Int) (N : List (List Int)) (T : Nat) (b : Nat) (wB wr : World) (ch : Bool) : Prop :=
  ∃ S, SetU wr b S ∧ Places E.length S ∧ Ext wB wr ∧ (ch = false → ClosedB E N T S)
def RetWk (w : World) (e : List Int) (t : Int) (r : Ending) (w' : World) : Prop :=
  ∃ n : Int, r = .returned (.int .i64 n) ∧ Ext w w' ∧ (n = -1 ∨ ∃ W T : Nat, n = W ∧ W < 16 ∧ t = T ∧ T < 16 ∧ auB e = true ∧ ∃ S, ClosedB (auE e) (auN e) T S ∧ ∀ a, a < 4 → W.testBit a = true → (0, a) ∉ S)
set_option maxRecDepth 100000 in
set_option maxHeartbeats 8000000 in
theorem iWeakTest_c (a : Option Addr) (c : Nat) (e : List Int) (t : Int) (w : World) (he : IntsAt w a e) (hle : e.length ≤ 4194304) :
    Calls Tryz.prog 91 #[.slice a e.length c, .int .i64 t] w (RetWk w e t) := by
  have CA : Hid (∀ w', Ext w w' → Calls Tryz.prog 115 #[.slice a e.length c] w' (RetAu w' e)) := fun w' x => autoOf_c a c e w' (he.ext x) hle
  clear he
  cases hb : auB e
  · have HE : Hid ((auE e).length = 0) := by unfold Hid; rw [auE_off hb]; rfl
    clear hb
    generalize e.length = ne at *
    go_enter Tryz.func91, Tryz.ntmps91
    go_wp2_with fail
    refine (CA.out _ (by (repeat (first | exact Ext.refl _ | assumption | refine Ext.alloc ?_ _ | refine Ext.drewN ?_ _ | refine Ext.drew ?_)))).mono ?_
    rintro r w1 ⟨a1, c1, a2, c2, rfl, -, x1⟩
    rw [HE.out]
    have X1 := Lib.hid (Ext.trans (show Ext w _ by (repeat (first | exact Ext.refl _ | assumption | refine Ext.alloc ?_ _ | refine Ext.drewN ?_ _ | refine Ext.drew ?_))) x1)
    clear x1
    go_wp2
    go_ret
    exact ⟨-1, rfl, X1.out.trans (by (repeat (first | exact Ext.refl _ | assumption | refine Ext.alloc ?_ _ | refine Ext.drewN ?_ _ | refine Ext.drew ?_))), .inl rfl⟩
  · have hpos := auE_pos hb
    have hne : ((((auE e).length : Nat) : Int) == 0) = false := by rw [beq_eq_false_iff_ne]; omega
    cases ht : inB t 0 15
    · have HT := Lib.hid ht
      clear ht hb
      generalize e.length = ne at *
      go_enter Tryz.func91, Tryz.ntmps91
      go_wp2_with fail
      refine (CA.out _ (by (repeat (first | exact Ext.refl _ | assumption | refine Ext.alloc ?_ _ | refine Ext.drewN ?_ _ | refine Ext.drew ?_)))).mono ?_
      rintro r w1 ⟨a1, c1, a2, c2, rfl, -, x1⟩
      have X1 := Lib.hid (Ext.trans (show Ext w _ by (repeat (first | exact Ext.refl _ | assumption | refine Ext.alloc ?_ _ | refine Ext.drewN ?_ _ | refine Ext.drew ?_))) x1)
      clear x1
      generalize (auE e).length = nE at *
      go_wp2_with (go_at_call 93; refine (iTestValid_c _ _).mono ?_; rw [HT.out]; rintro e w' ⟨rfl, rfl⟩)
      go_ret
      exact ⟨-1, rfl, X1.out.trans (by (repeat (first | exact Ext.refl _ | assumption | refine Ext.alloc ?_ _ | refine Ext.drewN ?_ _ | refine Ext.drew ?_))), .inl rfl⟩
    · have hb1 : 0 ≤ t ∧ t ≤ 15 := by simpa [inB] using ht
      obtain ⟨T, rfl⟩ := Int.eq_ofNat_of_zero_le hb1.1
      have hT : T < 16 := by omega
      have hA := auto_of e
      have hten := hA.ten
      have HA := Lib.hid hA
      have HLen := Lib.hid hA.len
      have HT := Lib.hid ht
      have HFin : Hid (∀ (S : List (Nat × Nat)) (w' : World), ClosedB (auE e) (auN e) T S → Ext w w' → RetWk w e (T : Int) (.returned (.int .i64 ((outW S 4 : Nat) : Int))) w') := fun S w' h x => ⟨_, rfl, x, .inr ⟨outW S 4, T, rfl, outW_lt S, rfl, hT, hb, S, h, fun a ha hbit => ((outW_bit S a 4).1 hbit).2⟩⟩
      clear ht hb hA hb1
      generalize RetWk w e (T : Int) = FQ at *
      generalize e.length = ne at *
      have hmm := @run_makeMap Tryz.prog
      go_enter Tryz.func91, Tryz.ntmps91
      go_wp2_with fail
      refine (CA.out _ (by (repeat (first | exact Ext.refl _ | assumption | refine Ext.alloc ?_ _ | refine Ext.drewN ?_ _ | refine Ext.drew ?_)))).mono ?_
      rintro r w1 ⟨a1, c1, a2, c2, rfl, r1, x1⟩
      have X1 := Lib.hid (Ext.trans (show Ext w _ by (repeat (first | exact Ext.refl _ | assumption | refine Ext.alloc ?_ _ | refine Ext.drewN ?_ _ | refine Ext.drew ?_))) x1)
      have RI := Lib.hid r1.1.ints
      have RN := Lib.hid r1.2.rows
      clear r1 x1 CA
      rw [HLen.out]
      generalize auN e = N at *
      generalize auE e = E at *
      generalize hnE : E.length = nE at *
      have HnE := Lib.hid hnE
      clear hnE
      go_wp2_with (go_at_call 93; refine (iTestValid_c _ _).mono ?_; rw [HT.out]; rintro e w' ⟨rfl, rfl⟩)
      clear hmm
      have hS0 : Hid (SetU ((w1.alloc (.cells #[.slice a1 nE c1, .slice a2 nE c2] 63)).alloc (.map #[] 0)) (w1.heap.size + 1) []) := by
        unfold Hid
        have := SetU.made (w1.alloc (.cells #[.slice a1 nE c1, .slice a2 nE c2] 63))
        simpa using this
      have HBox : Hid (∀ w', Ext (w1.alloc (.cells #[.slice a1 nE c1, .slice a2 nE c2] 63)) w' → w'.cell? ⟨w1.heap.size, 0, none⟩ = some (.slice a1 nE c1) ∧ w'.cell? ⟨w1.heap.size, 1, none⟩ = some (.slice a2 nE c2)) := fun w' x =>
        ⟨x.cell' (by simp [go_sem]) (by simp), x.cell' (by simp [go_sem]) (by simp)⟩
      go_loopw [7] (fun ch wr => Hid (∃ cb : Bool, ch = .bool cb ∧ WkO E N T (w1.heap.size + 1) (w1.alloc (.cells #[.slice a1 nE c1, .slice a2 nE c2] 63)) wr cb)) (fun ch wr => leftU ch wr (w1.heap.size + 1))
      case atStart => exact Lib.hid ⟨true, rfl, [], hS0.out, fun p hp => (by cases hp), (Ext.refl _).alloc _, fun h => (by cases h)⟩
      case round =>
        obtain ⟨cb, rfl, S0, hs, hpl, hx, hc⟩ := hrel.out
        have HS := Lib.hid hs
        have HPl := Lib.hid hpl
        have HX := Lib.hid hx
        clear hrel hs hpl hx hS0
        cases cb
        · have HC := Lib.hid (hc rfl)
          clear hc
          go_wp2
          go_loop [15, 96] (fun o i => Hid (∃ k : Nat, k ≤ 4 ∧ i = .int .i64 k ∧ o = .int .i64 (outW S0 k : Nat))) (fun _ i => 4 - (intOf i).toNat)
          case atStart => exact Lib.hid ⟨0, by omega, rfl, rfl⟩
          case round =>
            obtain ⟨k, hk, rfl, rfl⟩ := hrel.out
            clear hrel
            by_cases hlt : k < 4
            · have hki : (k : Int) < 4 := by omega
              by_cases hin : (0, k) ∈ S0
              · have HI : Hid (decide ((0, k) ∈ S0) = true) := decide_eq_true hin
                have HO := Lib.hid (outW_in hin)
                clear hin
                go_wp2_with (refine wpList_lookU rfl _ _ rfl (w1.heap.size + 1) S0 (0, k) rfl rfl HS.out true HI.out ?_)
                go_round
                case rel => exact Lib.hid ⟨k + 1, by omega, by go_num, by rw [HO.out]⟩
                case measure => simp [intOf]; omega
              · have HI : Hid (decide ((0, k) ∈ S0) = false) := decide_eq_false hin
                have HO := Lib.hid (outW_out hin)
                have hlo : outW S0 k < 4294967296 := by
                  have h1 := sumN_lt (fun a => decide ((0, a) ∉ S0)) k
                  have h2 : 2 ^ k ≤ 2 ^ 4 := Nat.pow_le_pow_right (by decide) (by omega)
                  unfold outW; omega
                have hpc := pow2_cast k
                have hp1 : pow2 k ≤ 16 := pow2_le k 4 (by omega)
                have ho := i64_orN (outW S0 k) (pow2 k) hlo (by omega)
                clear hin
                go_wp2_with (refine wpList_lookU rfl _ _ rfl (w1.heap.size + 1) S0 (0, k) rfl rfl HS.out false HI.out ?_)
                go_round
                case rel => exact Lib.hid ⟨k + 1, by omega, by go_num, by rw [← HO.out]⟩
                case measure => simp [intOf]; omega
            · obtain rfl : k = 4 := by omega
              have HR := Lib.hid (HFin.out S0 wr HC.out (X1.out.trans (Ext.trans ((Ext.refl _).alloc _) HX.out)))
              go_wp2
              exact HR.out
        · clear hc HFin
          obtain ⟨wo, hwo⟩ : ∃ wo, wo = wr := ⟨_, rfl⟩
          subst hwo
          have hsz := places_len HS.out.2 HPl.out
          have HSz0 := Lib.hid (HS.out.size)
          rw [HnE.out] at hsz
          obtain ⟨kb0, kb1⟩ := HBox.out wo HX.out
          have zb := lt_of_cell kb0
          go_wp2
          clear kb0 kb1 zb
          go_loopw [7, 33] (fun ch i wr => Hid (∃ (k : Nat) (cb : Bool), k ≤ nE ∧ i = .int .i64 k ∧ ch = .bool cb ∧ WkSt E N T S0 (w1.heap.size + 1) (w1.alloc (.cells #[.slice a1 nE c1, .slice a2 nE c2] 63)) wr k 0 cb)) (fun _ i _ => nE - (intOf i).toNat)
          case atStart => exact Lib.hid ⟨0, false, Nat.zero_le _, rfl, rfl, S0, HS.out, HPl.out, HX.out, fun h => (by cases h), fun _ => ⟨rfl, Done.zero⟩⟩
          case round =>
            obtain ⟨k, cb, hk, rfl, rfl, hst⟩ := hrel.out
            have HSt := Lib.hid hst
            clear hrel hst
            by_cases hlt : k < nE
            · have hki : (k : Int) < (nE : Int) := by omega
              obtain ⟨bE, oE, pE, qE⟩ := RI.out
              obtain ⟨rfl, hbE⟩ := pE (by rw [HnE.out]; omega)
              have cE := qE k (by rw [HnE.out]; exact hlt)
              obtain ⟨bN, oN, pN, qN⟩ := RN.out
              obtain ⟨rfl, hbN⟩ := pN (by rw [HLen.out]; omega)
              obtain ⟨ai, ci, cN, bR, oR, pR, qR⟩ := qN k (by rw [HLen.out]; exact hlt)
              have hrow := HA.out.row k (by rw [HnE.out]; exact hlt)
              obtain ⟨rfl, hbR⟩ := pR (by omega)
              rw [hrow] at cN
              have hxE := HA.out.ends k (by rw [HnE.out]; exact hlt)
              have hvE : nth E k = ((natAt E k : Nat) : Int) := by unfold natAt; omega
              rw [hvE] at cE
              have hE16 : natAt E k < 16 := by unfold natAt; omega
              have HCE := Lib.hid cE
              have HCN := Lib.hid cN
              have HQR : Hid (∀ u, u < 12 → w1.cell? ⟨bR, oR + u, none⟩ = some (.int .i64 ((natAt (rowI N k) u : Nat) : Int)) ∧ natAt (rowI N k) u < 1024) := fun u hu => by
                have h1 := qR u (by rw [hrow]; exact hu)
                have h2 := HA.out.next k (by rw [HnE.out]; exact hlt) u hu
                have h3 := HA.out.nat (s := k) (m := u) (by rw [HnE.out]; exact hlt) hu
                have h4 := two_10 HA.out
                have h5 : nth (rowI N k) u = ((natAt (rowI N k) u : Nat) : Int) := by unfold natAt; omega
                rw [h5] at h1
                exact ⟨h1, by omega⟩
              have X1B : Hid (Ext w1 (w1.alloc (.cells #[.slice (some ⟨bE, oE, none⟩) nE c1, .slice (some ⟨bN, oN, none⟩) nE c2] 63))) := (Ext.refl _).alloc _
              clear pE qE pN qN pR qR cE cN hxE hvE hrow
              go_wp2
              obtain ⟨wp, hwp⟩ : ∃ wp, wp = wr := ⟨_, rfl⟩
              subst hwp
              go_loopw [7, 36] (fun ch i wr => Hid (∃ (m : Nat) (cb : Bool), m ≤ 4 ∧ i = .int .i64 m ∧ ch = .bool cb ∧ WkSt E N T S0 (w1.heap.size + 1) (w1.alloc (.cells #[.slice (some ⟨bE, oE, none⟩) nE c1, .slice (some ⟨bN, oN, none⟩) nE c2] 63)) wr k m cb)) (fun _ i _ => 4 - (intOf i).toNat)
              case atStart => exact Lib.hid ⟨0, cb, by omega, rfl, rfl, HSt.out⟩
              case round =>
                obtain ⟨m, cb2, hm, rfl, rfl, S, hs, hpl, hx, hgt, hno⟩ := hrel.out
                have HS2 := Lib.hid hs
                have HPl2 := Lib.hid hpl
                have HX2 := Lib.hid hx
                have HGt := Lib.hid hgt
                have HNo := Lib.hid hno
                have HGe : Hid (S0.length ≤ S.length) := by
                  unfold Hid
                  cases cb2
                  · rw [(hno rfl).1]; exact Nat.le_refl _
                  · exact Nat.le_of_lt (hgt rfl)
                clear hrel hs hpl hx hgt hno HSt
                by_cases hm4 : m < 4
                · have hmi : (m : Int) < 4 := by omega
                  by_cases hin : (k, m) ∈ S
                  · have HI : Hid (decide ((k, m) ∈ S) = true) := decide_eq_true hin
                    have HN2 : Hid (cb2 = false → S = S0 ∧ Done E N T S0 k (m + 1)) := fun h => by
                      obtain ⟨rfl, hd⟩ := HNo.out h
                      exact ⟨rfl, hd.next fun hn => absurd hin hn⟩
                    clear hin
                    go_wp2_with (refine wpList_lookU rfl _ _ rfl (w1.heap.size + 1) S (k, m) rfl rfl (HS2.out.ext (by (repeat (first | exact Ext.refl _ | assumption | refine Ext.alloc ?_ _ | refine Ext.drewN ?_ _ | refine Ext.drew ?_)))) true HI.out ?_)
                    go_roundw
                    case rel => exact Lib.hid ⟨m + 1, cb2, by omega, by go_num, rfl, S, HS2.out.ext (by (repeat (first | exact Ext.refl _ | assumption | refine Ext.alloc ?_ _ | refine Ext.drewN ?_ _ | refine Ext.drew ?_))), HPl2.out, HX2.out.trans (by (repeat (first | exact Ext.refl _ | assumption | refine Ext.alloc ?_ _ | refine Ext.drewN ?_ _ | refine Ext.drew ?_))), HGt.out, HN2.out⟩
                    case measure => simp [intOf]; omega
                  · have HI : Hid (decide ((k, m) ∈ S) = false) := decide_eq_false hin
                    have HNi := Lib.hid hin
                    obtain ⟨kb0, kb1⟩ := HBox.out wr HX2.out
                    have zb := lt_of_cell kb0
                    have ke := (X1B.out.trans HX2.out).cell' HCE.out hbE
                    have ze := lt_of_cell ke
                    have CH1 : Hid (∀ w', Calls Tryz.prog 74 #[.int .i64 ((natAt E k : Nat) : Int), .int .i64 (m : Nat)] w' fun e w'' => e = .returned (.bool ((natAt E k).testBit m)) ∧ w' = w'') := fun w' => holds_c _ _ w' (by omega) (by omega)
                    have CH2 : Hid (∀ w', Calls Tryz.prog 74 #[.int .i64 (T : Nat), .int .i64 (m : Nat)] w' fun e w'' => e = .returned (.bool (T.testBit m)) ∧ w' = w'') := fun w' => holds_c _ _ w' (by omega) (by omega)
                    have HD0 : Hid (¬ ((natAt E k).testBit m = true ∧ T.testBit m = false) → Fine E N T S k m 0) := fun h => ⟨h, fun i hi => absurd hi (Nat.not_lt_zero _)⟩
                    clear hin
                    generalize (natAt E k).testBit m = b1 at *
                    generalize T.testBit m = b2 at *
                    generalize natAt E k = x at *
                    cases b1 <;> cases b2
                    all_goals
                      go_wp2_with (first
                        | (refine wpList_lookU rfl _ _ rfl (w1.heap.size + 1) S (k, m) rfl rfl (HS2.out.ext (by (repeat (first | exact Ext.refl _ | assumption | refine Ext.alloc ?_ _ | refine Ext.drewN ?_ _ | refine Ext.drew ?_)))) false HI.out ?_)
                        | (go_at_call 74; refine (CH1.out _).mono ?_; rintro e w' ⟨rfl, rfl⟩)
                        | (go_at_call 74; refine (CH2.out _).mono ?_; rintro e w' ⟨rfl, rfl⟩))
                      clear CH1 CH2 ke kb0 kb1 zb
                      obtain ⟨wv, hwv⟩ : ∃ wv, wv = wr := ⟨_, rfl⟩
                      subst hwv
                      go_loopw [11, 12] (fun is i wr => Hid (∃ (j : Nat) (ib : Bool), j ≤ 3 ∧ i = .int .i64 (16 + (j : Int)) ∧ is = .bool ib ∧ Ext (wv.alloc (.cells #[.int .i64 (k : Nat), .int .i64 (m : Nat)] 131)) wr ∧ (ib = false → Fine E N T S k m j))) (fun _ i _ => 19 - (intOf i).toNat)
                      case atStart => exact Lib.hid ⟨0, _, by omega, rfl, rfl, by (repeat (first | exact Ext.refl _ | assumption | refine Ext.alloc ?_ _ | refine Ext.drewN ?_ _ | refine Ext.drew ?_)), fun h => by first | (cases h; done) | exact HD0.out (by simp)⟩
                      case round =>
                        obtain ⟨j, ib, hj, rfl, rfl, hx4, hf⟩ := hrel.out
                        have HX4 := Lib.hid hx4
                        have HF := Lib.hid hf
                        have HV4 := Lib.hid (Ext.trans (show Ext wv _ from (Ext.refl _).alloc _) hx4)
                        clear hrel hx4 hf HD0
                        have HX14 := Lib.hid (HX2.out.trans HV4.out)
                        have HS4 := Lib.hid (HS2.out.ext HV4.out)
                        obtain ⟨kb0, kb1⟩ := HBox.out wr HX14.out
                        have zb := lt_of_cell kb0
                        cases ib
                        · by_cases hj3 : j < 3
                          · have hji : (16 : Int) + (j : Int) ≤ 18 := by omega
                            obtain ⟨u, hu⟩ : ∃ u, u = 3 * m + j := ⟨_, rfl⟩
                            have hu12 : u < 12 := by omega
                            have hu12i : (u : Int) < 12 := by omega
                            have kn := (X1B.out.trans HX14.out).cell' HCN.out hbN
                            have zn := lt_of_cell kn
                            have hq := HQR.out u hu12
                            have kr := (X1B.out.trans HX14.out).cell' hq.1 hbR
                            have zr := lt_of_cell kr
                            have hy := hq.2
                            have CM : Hid (∀ w', Calls Tryz.prog 136 #[.int .i64 (m : Nat), .int .i64 (16 + (j : Int))] w' fun e w'' => e = .returned (.int .i64 ((u : Nat) : Int)) ∧ w' = w'') := fun w' => by rw [hu]; exact move_c m j w' (by omega) hj3
                            have HStep : Hid ((∀ p, p ∈ S → (natAt (rowI N k) u).testBit p.1 = false) → Fine E N T S k m (j + 1)) := fun h => (HF.out rfl).step (by rw [← hu]; exact h)
                            clear hq hu
                            generalize natAt (rowI N k) u = y at *
                            go_wp2
                            go_quiet ((go_at_call 136; exact quiet_same (CM.out _)))
                            go_wp2_with (at_range; refine wpList_rangeU rfl _ rfl (w1.heap.size + 1) S (fun p => false = true ∨ y.testBit p.1 = false) rfl (HS4.out.ext (by (repeat (first | exact Ext.refl _ | assumption | refine Ext.alloc ?_ _ | refine Ext.drewN ?_ _ | refine Ext.drew ?_)))) ?_; intro w3 hr3 hx3 hz3)
                            go_frame
                            try simp only [World.heap_drewN]
                            have HR3 : Hid (RngU w3 (w1.heap.size + 1) wr.heap.size S (fun p => false = true ∨ y.testBit p.1 = false)) := hr3
                            have XR := Lib.hid (Ext.trans (show Ext wr _ by (repeat (first | exact Ext.refl _ | assumption | refine Ext.alloc ?_ _ | refine Ext.drewN ?_ _ | refine Ext.drew ?_))) hx3)
                            clear hr3 hx3 hz3 kb0 kb1 kn kr zn zr zb CM
                            obtain ⟨wq, hwq⟩ : ∃ wq, wq = wr := ⟨_, rfl⟩
                            subst hwq
                            generalize hr0 : wq.heap.size = r0 at *
                            have HR0 := Lib.hid hr0
                            clear hr0
                            go_loopw [11] (fun is w4 => Hid (∃ ib : Bool, is = .bool ib ∧ RngU w4 (w1.heap.size + 1) r0 S (fun p => ib = true ∨ y.testBit p.1 = false) ∧ Ext wq w4)) (fun _ w4 => w4.rangeLeft (w1.heap.size + 1) r0)
                            case atStart => exact Lib.hid ⟨false, rfl, HR3.out, XR.out⟩
                            case round =>
                              obtain ⟨ib, rfl, hrg, hx5⟩ := hrel.out
                              have HX5 := Lib.hid hx5
                              clear hrel HR3 XR hx5
                              cases ib
                              · go_wp2_with (at_next; refine wpList_nextU rfl _ rfl (w1.heap.size + 1) r0 S (fun p => false = true ∨ y.testBit p.1 = false) rfl hrg (fun hall => ?_) (fun p w6 hpS hC hE hl6 hen => have x6 := Lib.hid (hE wq HX5.out (by rw [HR0.out]; exact Nat.le_refl _)); have hp1 : p.1 < nE := HnE.out ▸ (HPl2.out p hpS).1; have eb := i64_bit_eq y p.1 (by omega); ?_))
                                · skip
                                  have HAll := Lib.hid (HStep.out (fun p hp => (hall p hp).resolve_left (by simp)))
                                  go_roundw
                                  case rel => exact Lib.hid ⟨j + 1, false, by omega, by go_num, rfl, HX4.out.trans (HX5.out.trans (by (repeat (first | exact Ext.refl _ | assumption | refine Ext.alloc ?_ _ | refine Ext.drewN ?_ _ | refine Ext.drew ?_)))), fun _ => HAll.out⟩
                                  case measure => simp [intOf]; omega
                                · skip
                                  have hrg6 := hC (fun q => y.testBit p.1 = true ∨ y.testBit q.1 = false) (fun q h => .inr (h.resolve_left (by simp))) (by cases y.testBit p.1 <;> simp)
                                  go_roundw
                                  case rel => exact Lib.hid ⟨y.testBit p.1, rfl, (hrg6.ext (by (repeat (first | exact Ext.refl _ | assumption | refine Ext.alloc ?_ _ | refine Ext.drewN ?_ _ | refine Ext.drew ?_)))).1, x6.out.trans (by (repeat (first | exact Ext.refl _ | assumption | refine Ext.alloc ?_ _ | refine Ext.drewN ?_ _ | refine Ext.drew ?_)))⟩
                                  case measure => rw [(hrg6.ext (by (repeat (first | exact Ext.refl _ | assumption | refine Ext.alloc ?_ _ | refine Ext.drewN ?_ _ | refine Ext.drew ?_)))).2]; exact hl6
                              · go_wp2_with (at_next; refine wpList_nextU rfl _ rfl (w1.heap.size + 1) r0 S (fun p => true = true ∨ y.testBit p.1 = false) rfl hrg (fun hall => ?_) (fun p w6 hpS hC hE hl6 hen => have x6 := Lib.hid (hE wq HX5.out (by rw [HR0.out]; exact Nat.le_refl _)); ?_))
                                · skip
                                  go_roundw
                                  case rel => exact Lib.hid ⟨j + 1, true, by omega, by go_num, rfl, HX4.out.trans (HX5.out.trans (by (repeat (first | exact Ext.refl _ | assumption | refine Ext.alloc ?_ _ | refine Ext.drewN ?_ _ | refine Ext.drew ?_)))), fun h => (by cases h)⟩
                                  case measure => simp [intOf]; omega
                                · skip
                                  have hrg6 := hC (fun q => true = true ∨ y.testBit q.1 = false) (fun q h => h) (.inl rfl)
                                  go_roundw
                                  case rel => exact Lib.hid ⟨true, rfl, (hrg6.ext (by (repeat (first | exact Ext.refl _ | assumption | refine Ext.alloc ?_ _ | refine Ext.drewN ?_ _ | refine Ext.drew ?_)))).1, x6.out.trans (by (repeat (first | exact Ext.refl _ | assumption | refine Ext.alloc ?_ _ | refine Ext.drewN ?_ _ | refine Ext.drew ?_)))⟩
                                  case measure => rw [(hrg6.ext (by (repeat (first | exact Ext.refl _ | assumption | refine Ext.alloc ?_ _ | refine Ext.drewN ?_ _ | refine Ext.drew ?_)))).2]; exact hl6
                          · obtain rfl : j = 3 := by omega
                            have HGo := Lib.hid (HF.out rfl).good
                            have HN2 : Hid (cb2 = false → S = S0 ∧ Done E N T S0 k (m + 1)) := fun h => by
                              obtain ⟨rfl, hd⟩ := HNo.out h
                              exact ⟨rfl, hd.next fun _ => HGo.out⟩
                            go_wp2
                            go_roundw
                            case rel => exact Lib.hid ⟨m + 1, cb2, by omega, by go_num, rfl, S, HS4.out.ext (by (repeat (first | exact Ext.refl _ | assumption | refine Ext.alloc ?_ _ | refine Ext.drewN ?_ _ | refine Ext.drew ?_))), HPl2.out, HX14.out.trans (by (repeat (first | exact Ext.refl _ | assumption | refine Ext.alloc ?_ _ | refine Ext.drewN ?_ _ | refine Ext.drew ?_))), HGt.out, HN2.out⟩
                            case measure => simp [intOf]; omega
                        · have kp0 := HX4.out.cell' (show (wv.alloc (.cells #[.int .i64 (k : Nat), .int .i64 (m : Nat)] 131)).cell? ⟨wv.heap.size, 0, none⟩ = some (.int .i64 (k : Nat)) by simp [go_sem]) (by simp)
                          have kp1 := HX4.out.cell' (show (wv.alloc (.cells #[.int .i64 (k : Nat), .int .i64 (m : Nat)] 131)).cell? ⟨wv.heap.size, 1, none⟩ = some (.int .i64 (m : Nat)) by simp [go_sem]) (by simp)
                          by_cases hj3 : j < 3
                          all_goals
                            first
                              | (have hji : (16 : Int) + (j : Int) ≤ 18 := by omega)
                              | (have hji : ¬ ((16 : Int) + (j : Int) ≤ 18) := by omega)
                            go_wp2_with (refine wpList_putU rfl _ _ _ rfl (w1.heap.size + 1) S (k, m) rfl rfl rfl (HS4.out.ext (by (repeat (first | exact Ext.refl _ | assumption | refine Ext.alloc ?_ _ | refine Ext.drewN ?_ _ | refine Ext.drew ?_)))) ?_; intro w7 s7 g7 z7)
                            rw [if_neg HNi.out] at s7
                            have HP7 : Hid (Places E.length (S ++ [(k, m)])) := fun p hp => by
                              rcases List.mem_append.1 hp with h | h
                              · exact HPl2.out p h
                              · obtain rfl := List.mem_singleton.1 h
                                exact ⟨by rw [HnE.out]; exact hlt, hm4⟩
                            have HX7 := Lib.hid (Ext.row (HX14.out.trans (by (repeat (first | exact Ext.refl _ | assumption | refine Ext.alloc ?_ _ | refine Ext.drewN ?_ _ | refine Ext.drew ?_)))) g7 (fun x hx => by have := Option.some.inj hx; simp; omega))
                            go_roundw
                            case rel => exact Lib.hid ⟨m + 1, true, by omega, by go_num, rfl, S ++ [(k, m)], s7, HP7.out, HX7.out, fun _ => by rw [List.length_append]; have := HGe.out; simp; omega, fun h => (by cases h)⟩
                            case measure => simp [intOf]; omega
                · obtain rfl : m = 4 := by omega
                  have HN2 : Hid (cb2 = false → S = S0 ∧ Done E N T S0 (k + 1) 0) := fun h => by
                    obtain ⟨h1, h2⟩ := HNo.out h
                    exact ⟨h1, h2.row⟩
                  go_wp2
                  go_roundw
                  case rel => exact Lib.hid ⟨k + 1, cb2, by omega, by go_num, rfl, S, HS2.out, HPl2.out, HX2.out, HGt.out, HN2.out⟩
                  case measure => simp [intOf]; omega
            · obtain rfl : k = nE := by omega
              obtain ⟨S, hs, hpl, hx, hgt, hno⟩ := HSt.out
              have HS2 := Lib.hid hs
              have HPl2 := Lib.hid hpl
              have HX2 := Lib.hid hx
              have HCl : Hid (cb = false → ClosedB E N T S) := fun h => by
                obtain ⟨rfl, hd⟩ := hno h
                exact hd.closed HnE.out
              have hsz2 := places_len hs.2 hpl
              rw [HnE.out] at hsz2
              have HM : Hid (leftU (.bool cb) wr (w1.heap.size + 1) < leftU (.bool true) wo (w1.heap.size + 1)) := by
                unfold Hid
                rw [leftU_true, HSz0.out]
                cases cb
                · rw [leftU_false]; omega
                · rw [leftU_true, hs.size]; have := hgt rfl; omega
              clear hs hpl hx hgt hno HSt
              go_wp2
              go_roundw
              case rel => exact Lib.hid ⟨cb, rfl, S, HS2.out, HPl2.out, HX2.out, HCl.out⟩
              case measure => exact HM.out
end Go.Proofs.YtlaamecfknkmlaaGreat
namespace Go.Proofs.YtlaamecfknkmlaaGreat
set_option linter.unusedVariables false
open Go.RowKit Go.Kt
def RetBel (w : World) (a b : Int) (e : Ending) (w' : World) : Prop := ∃ bb, e = .returned (.bool bb) ∧ w = w' ∧ (bb = true → ∃ A B : Nat, a = A ∧ b = B ∧ A < 16 ∧ B < 16 ∧ ∀ i, A.testBit i = true → B.testBit i = true)
theorem iTestBelow_c (a b : Int) (w : World) : Calls Tryz.prog 92 #[.int .i64 a, .int .i64 b] w (RetBel w a b) := by
  cases ha : inB a 0 15
  · have HA := Lib.hid ha
    clear ha
    go_enter Tryz.func92, Tryz.ntmps92
    go_wp2_with (go_at_call 93; refine (iTestValid_c _ _).mono ?_; rw [HA.out]; rintro e w' ⟨rfl, rfl⟩)
    go_ret
    exact ⟨false, rfl, rfl, fun h => (by cases h)⟩
  · cases hb : inB b 0 15
    · have HA := Lib.hid ha
      have HB := Lib.hid hb
      clear ha hb
      go_enter Tryz.func92, Tryz.ntmps92
      go_wp2_with (go_at_call 93; refine (iTestValid_c _ _).mono ?_; (first | rw [HA.out] | rw [HB.out]); rintro e w' ⟨rfl, rfl⟩)
      go_ret
      exact ⟨false, rfl, rfl, fun h => (by cases h)⟩
    · have h1 : 0 ≤ a ∧ a ≤ 15 := by simpa [inB] using ha
      have h2 : 0 ≤ b ∧ b ≤ 15 := by simpa [inB] using hb
      obtain ⟨A, rfl⟩ := Int.eq_ofNat_of_zero_le h1.1
      obtain ⟨B, rfl⟩ := Int.eq_ofNat_of_zero_le h2.1
      have HA := Lib.hid ha
      have HB := Lib.hid hb
      have he := i64_andnN A B (by omega) (by omega)
      have HF : Hid (∀ bb, bb = decide (((andnN A B : Nat) : Int) = 0) → RetBel w (A : Int) (B : Int) (.returned (.bool bb)) w) := fun bb h => ⟨bb, rfl, rfl, fun ht => ⟨A, B, rfl, rfl, by omega, by omega, fun i hi => sub_of_andN ((andnN_zero (by omega) (by omega)).1 (by rw [ht] at h; have := of_decide_eq_true h.symm; omega)) i hi⟩⟩
      clear ha hb h1 h2
      generalize andnN A B = x at *
      by_cases hx : (x : Int) = 0
      all_goals
        go_enter Tryz.func92, Tryz.ntmps92
        go_wp2_with (go_at_call 93; refine (iTestValid_c _ _).mono ?_; (first | rw [HA.out] | rw [HB.out]); rintro e w' ⟨rfl, rfl⟩)
        go_ret
        exact HF.out _ (by rw [Bool.eq_iff_iff]; simp <;> omega)
def RetTri (w : World) (e : List Int) (p q : Int) (r : Ending) (w' : World) : Prop := ∃ bb, r = .returned (.bool bb) ∧ Ext w w' ∧ (bb = true → Triple e p q)
set_option maxHeartbeats 1000000 in
theorem iTripleOk_c (p q : Int) (a : Option Addr) (c : Nat) (e : List Int) (w : World) (he : IntsAt w a e) (hle : e.length ≤ 4194304) :
    Calls Tryz.prog 23 #[.int .i64 p, .slice a e.length c, .int .i64 q] w (RetTri w e p q) := by
  have CW : Hid (∀ w', Ext w w' → Calls Tryz.prog 91 #[.slice a e.length c, .int .i64 q] w' (RetWk w' e q)) := fun w' x => iWeakTest_c a c e q w' (he.ext x) hle
  clear he
  generalize e.length = ne at *
  go_enter Tryz.func23, Tryz.ntmps23
  go_wp2_with fail
  refine (CW.out _ (by (repeat (first | exact Ext.refl _ | assumption | refine Ext.alloc ?_ _ | refine Ext.drewN ?_ _ | refine Ext.drew ?_)))).mono ?_
  rintro r w1 ⟨n, rfl, x1, hn⟩
  have X1 := Lib.hid (Ext.trans (show Ext w _ by (repeat (first | exact Ext.refl _ | assumption | refine Ext.alloc ?_ _ | refine Ext.drewN ?_ _ | refine Ext.drew ?_))) x1)
  clear x1 CW
  rcases hn with rfl | ⟨W, T, rfl, hW, rfl, hT, hb, S, hc, hS⟩
  · go_wp2
    go_ret
    exact ⟨false, rfl, X1.out.trans (by (repeat (first | exact Ext.refl _ | assumption | refine Ext.alloc ?_ _ | refine Ext.drewN ?_ _ | refine Ext.drew ?_))), fun h => (by cases h)⟩
  · have HF : Hid (∀ bb w', (bb = true → ∃ A B : Nat, p = A ∧ (W : Int) = B ∧ A < 16 ∧ B < 16 ∧ ∀ i, A.testBit i = true → B.testBit i = true) → Ext w w' → RetTri w e p (T : Int) (.returned (.bool bb)) w') := fun bb w' h x => ⟨bb, rfl, x, fun ht => by
      obtain ⟨A, B, h1, h2, h3, h4, h5⟩ := h ht
      obtain rfl : W = B := by omega
      exact ⟨A, T, h1, rfl, h3, hT, hb, S, hc, fun a ha hbit => hS a ha (h5 a hbit)⟩⟩
    have hW0 : (0 : Int) ≤ (W : Int) := by omega
    clear hc hS hb
    go_wp2_with (go_at_call 92; refine (iTestBelow_c _ _ _).mono ?_; rintro e w' ⟨bb, rfl, rfl, hbb⟩)
    have HB := Lib.hid hbb
    clear hbb
    go_ret
    exact HF.out _ _ HB.out (X1.out.trans (by (repeat (first | exact Ext.refl _ | assumption | refine Ext.alloc ?_ _ | refine Ext.drewN ?_ _ | refine Ext.drew ?_))))
end Go.Proofs.YtlaamecfknkmlaaGreat
