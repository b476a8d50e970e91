/- Merged texts: contracts and plain lemmas (LCertain). -/
import Derived.Test.YtlaamecfknkmlaaDoorMg17
import Derived.Test.YtlaamecfknkmlaaDoorMg34
import Derived.Test.YtlaamecfknkmlaaDoorMg42
import Derived.Test.YtlaamecfknkmlaaDoorMg45
import Derived.Test.YtlaamecfknkmlaaDoorMg38
/- The law: in a certain model every action leads to one state, and a loop to one at most (FnCertain). -/
namespace Go.Proofs.YtlaamecfknkmlaaDoor
set_option linter.unusedVariables false
open Go.RowKit Go.Kt

theorem drawCertain_c (a : Option Addr) (cap : Nat) (l : List Int) (w : World) (h : BytesAt w a l) (hlen : l.length ≤ 1048576) (hcap : l.length ≤ cap) :
    Calls Tryd.prog 5 #[.slice a l.length cap] w (DrewMo w) := by
  go_enter Tryd.func5, Tryd.ntmps5
  go_wp2_with fail
  refine (l20Open_c a cap l _ (h.ext (by (repeat (first | exact Ext.refl _ | assumption | refine Ext.alloc ?_ _ | refine Ext.drewN ?_ _ | refine Ext.drew ?_)))) hlen hcap).mono ?_
  rintro e w1 ⟨g, rfl, hg, hr0, hx0⟩
  have hg1 := hr0.lt
  have hz0 := hx0.size
  simp only [World.size_alloc] at hz0 hg
  have hb := Lib.hid ((box_zero w 25).ext hx0)
  have ht := Lib.hid ((thaw_zero w #[.int .i64 0, .int .i64 0, .int .i64 0, .slice none 0 0] 25).ext hx0)
  have hxw := Ext.trans (show Ext w _ by (repeat (first | exact Ext.refl _ | assumption | refine Ext.alloc ?_ _ | refine Ext.drewN ?_ _ | refine Ext.drew ?_))) hx0
  clear hx0
  go_wp2_with fail
  refine (l20Model_c g 0 9 _ (hr0.ext (by (repeat (first | exact Ext.refl _ | assumption | refine Ext.alloc ?_ _ | refine Ext.drewN ?_ _ | refine Ext.drew ?_)))) (by omega)).mono ?_
  rintro e w2 ⟨st, p, q, a2, c2, ll, rfl, hst, hrw, hlc, h3, h8, -, htc⟩
  have kr := (hb.out.untouched htc (.inl (by omega))).out
  have fr := (ht.out.untouched htc (.inl (by omega))).2
  have zr := (ht.out.untouched htc (.inl (by omega))).1
  have hx2 := Lib.hid (htc.ext hxw (by omega))
  have HRW := Lib.hid (hrw.mono (B' := w.heap.size + 1) (by omega))
  clear hrw htc hxw
  go_wp2
  refine bodyPost_ret (v := modelV st p q a2 ll.length c2) (by simp [results, Tryd.results5, go_sem, kr]) rfl ?_
  have hfin := drawn_rows (w' := (((w2.setCell ⟨w.heap.size, 0, none⟩ (.int .i64 st)).setCell ⟨w.heap.size, 1, none⟩ (.int .i64 p)).setCell ⟨w.heap.size, 2, none⟩ (.int .i64 q)).setCell ⟨w.heap.size, 3, none⟩ (.slice a2 ll.length c2)) hx2.out HRW.out (by
    (repeat (first | exact Touched.refl _ _ _ | refine Touched.setIn ?_ (by dsimp only; omega) (by dsimp only; omega) _)))
  exact ⟨st, p, q, a2, c2, ll, rfl, hst, hfin.1, hlc, h3, h8, hfin.2⟩
theorem bits_c (n : Nat) (w : World) (hn : n < 4294967296) : Calls Tryd.prog 10 #[.int .i64 n] w fun e w' => e = .returned (.int .i64 (popTo n 40 : Nat)) ∧ w = w' := by
  go_enter Tryd.func10, Tryd.ntmps10
  go_wp2
  go_loop [3, 4] (fun s i => Hid (∃ k : Nat, k ≤ 40 ∧ i = .int .i64 k ∧ s = .int .i64 (popTo n k : Nat))) (fun _ i => 40 - (intOf i).toNat)
  case atStart => exact Lib.hid ⟨0, Nat.zero_le _, rfl, rfl⟩
  case round =>
    obtain ⟨k, hk, rfl, rfl⟩ := hrel.out
    clear hrel
    by_cases hlt : k < 40
    · have hpl := popTo_le n k
      have hsuc : Hid (popTo n (k + 1) = popTo n k + (n.testBit k).toNat) := rfl
      have hta := tmod_bit n k
      have hea := emod_bit n k
      cases hb : n.testBit k
      · rw [hb] at hta hea
        simp only [Bool.toNat_false] at hta hea
        rw [hb] at hsuc
        clear hb
        generalize popTo n k = X at *
        go_wp2
        go_round
        case rel => exact Lib.hid ⟨k + 1, by omega, by go_num, by rw [hsuc.out]; rfl⟩
        case measure => simp [intOf]; omega
      · rw [hb] at hta hea
        simp only [Bool.toNat_true] at hta hea
        rw [hb] at hsuc
        clear hb
        generalize popTo n k = X at *
        go_wp2
        go_round
        case rel => exact Lib.hid ⟨k + 1, by omega, by go_num, by rw [hsuc.out]; go_num⟩
        case measure => simp [intOf]; omega
    · obtain rfl : k = 40 := by omega
      go_wp2
      go_ret
      exact ⟨rfl, rfl⟩
theorem kv_act : ∀ k, k < 3 → kvB [16 + ((k : Nat) : Int)] = true := by decide +kernel
set_option maxRecDepth 100000 in
set_option maxHeartbeats 1000000 in
theorem fnCertain_c (a0 : Option Addr) (c0 : Nat) (l0 : List Int) (w : World) (h0 : BytesAt w a0 l0) (hlen0 : l0.length ≤ 9223372036854775807) (hcap0 : l0.length ≤ c0) (hn : NamesW w) :
    Calls Tryd.prog 3 #[.slice a0 l0.length c0] w fun e w' => e = .returned (.bool true) ∧ Ext w w' := by
  by_cases hb : l0.length ≤ 1048576
  · have HN := Lib.hid hn
    clear hn
    go_enter Tryd.func3, Tryd.ntmps3
    go_wp2_with fail
    refine (drawCertain_c a0 c0 l0 _ h0 hb hcap0).mono ?_
    rintro e w1 ⟨st, p, q, a, cap, ll, rfl, hst, hr, hlc, h3, h8, hx⟩
    have H8 := Lib.hid (fun i hi => Nat.le_trans (h8 i hi) (show 8 ≤ 4194304 by omega))
    have hr1 := Lib.hid hr
    have hx1 := Lib.hid hx
    clear h8 hr hx
    obtain ⟨B, hB⟩ : ∃ B, Hid (B = certF st p q ll) := ⟨_, rfl⟩
    go_wp2_with fail
    refine (iCertain_c st p q a cap ll _ (hr1.out.ext (by (repeat (first | exact Ext.refl _ | assumption | refine Ext.alloc ?_ _ | refine Ext.drewN ?_ _ | refine Ext.drew ?_)))) (by omega) H8.out).mono ?_
    rw [← hB.out]
    rintro e w2 ⟨rfl, y⟩
    have hb2 := Lib.hid ((box_made w1 25 st p q (.slice a ll.length cap)).ext y)
    obtain ⟨k0, k1, k2, k3⟩ := hb2.out.out
    have zb := hb2.out.lt
    have hr2 := Lib.hid ((hr1.out.ext (by (repeat (first | exact Ext.refl _ | assumption | refine Ext.alloc ?_ _ | refine Ext.drewN ?_ _ | refine Ext.drew ?_)))).ext y)
    have hx2 := Lib.hid ((hx1.out.trans (by (repeat (first | exact Ext.refl _ | assumption | refine Ext.alloc ?_ _ | refine Ext.drewN ?_ _ | refine Ext.drew ?_)))).trans y)
    clear y hr1 hx1
    have hne : (B != B) = false := by simp
    go_wp2_with fail
    refine (sCertain_c st p q a cap ll _ (hr2.out.ext (by (repeat (first | exact Ext.refl _ | assumption | refine Ext.alloc ?_ _ | refine Ext.drewN ?_ _ | refine Ext.drew ?_)))) (by omega) H8.out).mono ?_
    rw [← hB.out]
    rintro e w3 ⟨rfl, y⟩
    have hb3 := Lib.hid ((hb2.out.ext (by (repeat (first | exact Ext.refl _ | assumption | refine Ext.alloc ?_ _ | refine Ext.drewN ?_ _ | refine Ext.drew ?_)))).ext y)
    have hr3 := Lib.hid ((hr2.out.ext (by (repeat (first | exact Ext.refl _ | assumption | refine Ext.alloc ?_ _ | refine Ext.drewN ?_ _ | refine Ext.drew ?_)))).ext y)
    have hx3 := Lib.hid ((hx2.out.trans (by (repeat (first | exact Ext.refl _ | assumption | refine Ext.alloc ?_ _ | refine Ext.drewN ?_ _ | refine Ext.drew ?_)))).trans y)
    clear y k0 k1 k2 k3 zb hb2 hr2 hx2
    obtain ⟨k0, k1, k2, k3⟩ := hb3.out.out
    have zb := hb3.out.lt
    cases hc : B
    · subst hc
      go_wp2_with fail
      refine (alive_c _).mono ?_
      rintro e w5 ⟨rfl, rfl⟩
      have hx4 := hx3.out.trans (show Ext w3 _ by (repeat (first | exact Ext.refl _ | assumption | refine Ext.alloc ?_ _ | refine Ext.drewN ?_ _ | refine Ext.drew ?_)))
      go_wp2
      go_ret
      exact ⟨rfl, hx4⟩
    · subst hc
      have hce : certF st p q ll = true := hB.out.symm
      have hv : mvB st p q ll = true := by
        unfold certF at hce; rw [Bool.and_eq_true] at hce; exact hce.1
      obtain ⟨s, P, Q, e1, rfl, rfl, b1, b2, b3, b4, b5, b6, b7, b8⟩ := mvB_bounds hv
      obtain rfl : st = s := by omega
      have hrel : ∀ i, i < 3 → Rel st (rowI ll i) := fun i hi => rvB_relK (b8 i hi)
      obtain ⟨hpa, hpl⟩ := cert_parts hst hce b7 hrel
      have HA : Hid (∀ k : Nat, k < 3 → rowsF st P Q ll [16 + (k : Int)] = rowI ll k) := fun k hk => by
        unfold rowsF
        have hkv := kv_act k hk
        have ht : treeOf [16 + (k : Int)] = .leaf (16 + (k : Int)) := treeOf_words (t := .leaf (16 + (k : Int))) (by show 0 ≤ 16 + (k : Int) ∧ 16 + (k : Int) ≤ 18; omega)
        rw [hv, hkv, ht]
        simp only [Bool.and_self, if_true, Kt.rows]
        rw [if_neg (by omega), show (16 + (k : Int)).toNat - 16 = k by omega]
      have HL : Hid (rowsF st P Q ll loopL = loopT.rows P Q st ll) := by
        unfold Hid rowsF
        rw [hv, kv_loop, ← loop_words, treeOf_words loop_good, Int.toNat_natCast]; rfl
      have hlr := loopT.rows_rel P Q st ll (by omega) hrel loop_good
      have HLen : Hid (∀ k : Nat, k < 3 → (rowI ll k).length = st) := fun k hk => (hrel k hk).len
      have HRel := Lib.hid hrel
      have HPA := Lib.hid hpa
      have HPL := Lib.hid hpl
      have HLR := Lib.hid hlr
      generalize loopT.rows P Q st ll = R at *
      have h3' : ll.length ≤ 4194304 := by omega
      clear hv hce hrel hpa hpl hlr b8 hne b7
      go_wp2
      go_loopw [5] (fun i wr => Hid (∃ k : Nat, k ≤ 3 ∧ i = .int .i64 k ∧ Ext w3 wr)) (fun i _ => 3 - (intOf i).toNat)
      case atStart => exact Lib.hid ⟨0, Nat.zero_le _, rfl, by (repeat (first | exact Ext.refl _ | assumption | refine Ext.alloc ?_ _ | refine Ext.drewN ?_ _ | refine Ext.drew ?_))⟩
      case round =>
        obtain ⟨k, hk, rfl, hx⟩ := hrel.out
        have HX := Lib.hid hx
        clear hrel hx k0 k1 k2 k3 zb
        obtain ⟨k0, k1, k2, k3⟩ := (hb3.out.ext HX.out).out
        have zb := (hb3.out.ext HX.out).lt
        by_cases hlt : k < 3
        · obtain ⟨wp, rfl⟩ : ∃ wp : World, wp = wr := ⟨_, rfl⟩
          have CR : Hid (∀ w' b cb, Ext wp w' → IntsAt w' b [16 + (k : Int)] → Calls Tryd.prog 9 #[modelV st P Q a ll.length cap, .slice b 1 cb] w' (RetI 3 w' (rowI ll k))) := fun w' b cb hx hi => by
            have := iRowsOf_c st P Q a cap ll b cb [16 + (k : Int)] w' (hr3.out.ext (HX.out.trans hx)) h3' H8.out hi (by simp)
            rw [HA.out k hlt] at this; exact this
          go_wp2_with fail
          refine (CR.out _ _ _ (by (repeat (first | exact Ext.refl _ | assumption | refine Ext.alloc ?_ _ | refine Ext.drewN ?_ _ | refine Ext.drew ?_))) (by first | exact (OwnI.lit1 _ _ _ _ (Nat.le_refl _)).ints | exact ((OwnI.lit1 _ _ _ _ (Nat.le_refl _)).ints).ext (by (repeat (first | exact Ext.refl _ | assumption | refine Ext.alloc ?_ _ | refine Ext.drewN ?_ _ | refine Ext.drew ?_))))).mono ?_
          rintro e w4 ⟨v4, rfl, o4, y⟩
          have hx4 := Lib.hid ((HX.out.trans (by (repeat (first | exact Ext.refl _ | assumption | refine Ext.alloc ?_ _ | refine Ext.drewN ?_ _ | refine Ext.drew ?_)))).trans y)
          obtain ⟨a4, c4, rfl, i4⟩ := o4.shape
          have HI4 := Lib.hid i4
          have hlk := HLen.out k hlt
          rw [hlk]
          replace hlk := Lib.hid hlk
          clear y o4 CR k0 k1 k2 k3 zb i4
          go_wp2
          go_loopw [7] (fun i wr => Hid (∃ j : Nat, j ≤ st ∧ i = .int .i64 j ∧ ∃ m, wr = w4.drewN m)) (fun i _ => st - (intOf i).toNat)
          case atStart => exact Lib.hid ⟨0, Nat.zero_le _, rfl, 0, rfl⟩
          case round =>
            obtain ⟨j, hj, rfl, m, rfl⟩ := hrel.out
            clear hrel
            by_cases hjt : j < st
            · obtain ⟨bb, oo, p5, q5⟩ := HI4.out
              obtain ⟨rfl, z5⟩ := p5 (by rw [hlk.out]; omega)
              have hc := q5 j (by rw [hlk.out]; exact hjt)
              have hS := (HRel.out k hlt).sets
              rw [hS.eq j (by rw [hlk.out]; exact hjt)] at hc
              have hn4 := hS.lt j (by rw [hlk.out]; exact hjt)
              have hpop := HPA.out k hlt j hjt
              generalize natAt (rowI ll k) j = M at *
              have CB : Hid (∀ w0, Calls Tryd.prog 10 #[.int .i64 M] w0 fun e w' => e = .returned (.int .i64 1) ∧ w0 = w') := fun w0 => by
                have := bits_c M w0 hn4
                rw [hpop] at this; exact this
              clear p5 q5 hS hpop
              go_wp2_with (go_at_call 10; refine (CB.out _).mono ?_; rintro e w0 ⟨rfl, rfl⟩)
              go_roundw
              case rel => exact Lib.hid ⟨j + 1, by omega, by go_num, by first | exact ⟨_, rfl⟩ | exact drawn2 _ _ _⟩
              case measure => simp [intOf]; omega
            · obtain rfl : j = st := by omega
              go_wp2
              go_roundw
              case rel => exact Lib.hid ⟨k + 1, by omega, by go_num, hx4.out.trans (by (repeat (first | exact Ext.refl _ | assumption | refine Ext.alloc ?_ _ | refine Ext.drewN ?_ _ | refine Ext.drew ?_)))⟩
              case measure => simp [intOf]; omega
        · obtain rfl : k = 3 := by omega
          have CK : Hid (∀ w', Ext w3 w' → Calls Tryd.prog 11 #[.string loopS] w' (RetIB w' loopL true)) := fun w' hx => by
            have := readKat_c loopS w' (HN.out.ext (hx3.out.trans hx))
            rw [loop_read] at this; exact this
          go_wp2_with fail
          refine (CK.out _ (HX.out.trans (by (repeat (first | exact Ext.refl _ | assumption | refine Ext.alloc ?_ _ | refine Ext.drewN ?_ _ | refine Ext.drew ?_))))).mono ?_
          rintro e w4 ⟨v4, rfl, o4, y⟩
          have hx4 := Lib.hid ((HX.out.trans (by (repeat (first | exact Ext.refl _ | assumption | refine Ext.alloc ?_ _ | refine Ext.drewN ?_ _ | refine Ext.drew ?_)))).trans y)
          obtain ⟨a4, c4, rfl, i4⟩ := o4.shape
          have HI4 := Lib.hid i4
          have hll : loopL.length = 12 := rfl
          rw [hll]
          clear y o4 CK k0 k1 k2 k3 zb i4
          obtain ⟨k0, k1, k2, k3⟩ := (hb3.out.ext hx4.out).out
          have zb := (hb3.out.ext hx4.out).lt
          have CR : Hid (∀ w', Ext w4 w' → Calls Tryd.prog 9 #[modelV st P Q a ll.length cap, .slice a4 12 c4] w' (RetI 3 w' R)) := fun w' hx => by
            have := iRowsOf_c st P Q a cap ll a4 c4 loopL w' (hr3.out.ext (hx4.out.trans hx)) h3' H8.out (HI4.out.ext hx) (by simp [loopL])
            rw [HL.out] at this; exact this
          clear hll
          go_wp2_with fail
          refine (CR.out _ (by (repeat (first | exact Ext.refl _ | assumption | refine Ext.alloc ?_ _ | refine Ext.drewN ?_ _ | refine Ext.drew ?_)))).mono ?_
          rintro e w5 ⟨v5, rfl, o5, y⟩
          have hx5 := Lib.hid (hx4.out.trans (Ext.trans (show Ext w4 _ by (repeat (first | exact Ext.refl _ | assumption | refine Ext.alloc ?_ _ | refine Ext.drewN ?_ _ | refine Ext.drew ?_))) y))
          obtain ⟨a5, c5, rfl, i5⟩ := o5.shape
          have HI5 := Lib.hid i5
          have hlk := HLR.out.len
          rw [hlk]
          replace hlk := Lib.hid hlk
          clear y o5 CR k0 k1 k2 k3 zb i5
          go_wp2
          go_loopw [11] (fun i wr => Hid (∃ j : Nat, j ≤ st ∧ i = .int .i64 j ∧ ∃ m, wr = w5.drewN m)) (fun i _ => st - (intOf i).toNat)
          case atStart => exact Lib.hid ⟨0, Nat.zero_le _, rfl, 0, rfl⟩
          case round =>
            obtain ⟨j, hj, rfl, m, rfl⟩ := hrel.out
            clear hrel
            by_cases hjt : j < st
            · obtain ⟨bb, oo, p5, q5⟩ := HI5.out
              obtain ⟨rfl, z5⟩ := p5 (by rw [hlk.out]; omega)
              have hc := q5 j (by rw [hlk.out]; exact hjt)
              have hS := HLR.out.sets
              rw [hS.eq j (by rw [hlk.out]; exact hjt)] at hc
              have hn4 := hS.lt j (by rw [hlk.out]; exact hjt)
              have hpop := HPL.out j hjt
              have hgt : ((popTo (natAt R j) 40 : Nat) : Int) ≤ 1 := by omega
              generalize natAt R j = M at *
              have CB : Hid (∀ w0, Calls Tryd.prog 10 #[.int .i64 M] w0 fun e w' => e = .returned (.int .i64 (popTo M 40 : Nat)) ∧ w0 = w') := fun w0 => bits_c M w0 hn4
              generalize popTo M 40 = pm at *
              clear p5 q5 hS
              go_wp2_with (go_at_call 10; refine (CB.out _).mono ?_; rintro e w0 ⟨rfl, rfl⟩)
              go_roundw
              case rel => exact Lib.hid ⟨j + 1, by omega, by go_num, by first | exact ⟨_, rfl⟩ | exact drawn2 _ _ _⟩
              case measure => simp [intOf]; omega
            · obtain rfl : j = st := by omega
              obtain ⟨k0, k1, k2, k3⟩ := (hb3.out.ext hx5.out).out
              have zb := (hb3.out.ext hx5.out).lt
              go_wp2
              go_ret
              exact ⟨by first | (simp; done) | (simp; omega), hx3.out.trans (hx5.out.trans (by (repeat (first | exact Ext.refl _ | assumption | refine Ext.alloc ?_ _ | refine Ext.drewN ?_ _ | refine Ext.drew ?_))))⟩
  · go_enter Tryd.func3, Tryd.ntmps3
    go_wp2
    go_ret
    exact ⟨rfl, Ext.refl _⟩
end Go.Proofs.YtlaamecfknkmlaaDoor
