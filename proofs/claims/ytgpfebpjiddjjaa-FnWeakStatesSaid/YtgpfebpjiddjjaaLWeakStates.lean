/- For all bytes: of what DrawWeakStates draws of them, a state is in WeakStates exactly if all states to which the expression leads from it are in the set (FnWeakStates). -/
import Derived.Test.YtgpfebpjiddjjaaMd
import Derived.Test.YtgpfebpjiddjjaaWc
import Derived.Test.YtgpfebpjiddjjaaU
namespace Go.Proofs.Ytgpfebpjiddjjaa
set_option linter.unusedVariables false
open Go.RowKit Go.Kt

theorem weakF_cases (st : Nat) (p q : Int) (ll : List (List Int)) (l : List Int) (x : Int) :
    weakF st p q ll l x = -1 ∨ ∃ P Q X : Nat, p = P ∧ q = Q ∧ x = X ∧ mvB st p q ll = true ∧ kvB l = true ∧ 1 ≤ st ∧ st ≤ 5 ∧ X < 2 ^ st ∧ (∀ i, i < 3 → Rel st (rowI ll i)) ∧ weakF st p q ll l x = (((treeOf l).weak P Q st ll X : Nat) : Int) := by
  unfold weakF
  cases hv : mvB st p q ll
  · exact .inl rfl
  · cases hs : kvB l
    · exact .inl rfl
    · cases hx : setB (st : Int).toNat x
      · exact .inl rfl
      · obtain ⟨s, P, Q, e1, rfl, rfl, b1, b2, b3, b4, b5, b6, b7, b8⟩ := mvB_bounds hv
        obtain rfl : st = s := by omega
        rw [Int.toNat_natCast] at hx ⊢
        have hx0 : 0 ≤ x ∧ x < 2 ^ st := by simpa [setB] using hx
        obtain ⟨X, rfl⟩ := Int.eq_ofNat_of_zero_le hx0.1
        exact .inr ⟨P, Q, X, rfl, rfl, rfl, rfl, rfl, b1, b2, by have := hx0.2; exact_mod_cast this, fun i hi => rvB_relK (b8 i hi), by simp⟩
set_option maxRecDepth 100000 in
set_option maxHeartbeats 1000000 in
theorem fnWeakStates_c (a0 : Option Addr) (c0 : Nat) (l0 : List Int) (w : World) (h0 : BytesAt w a0 l0) (hlen0 : l0.length ≤ 9223372036854775807) (hcap0 : l0.length ≤ c0) :
    Calls Try.prog 7 #[.slice a0 l0.length c0] w fun e w' => e = .returned (.bool true) ∧ Ext w w' := by
  by_cases hb : l0.length ≤ 1048576
  · go_enter Try.func7, Try.ntmps7
    go_wp2_with fail
    refine (drawWeakStates_c a0 c0 l0 _ h0 hb hcap0).mono ?_
    rintro e w1 ⟨st, p, q, a, cap, ll, a3, c3, L, x, rfl, hst, hr, hlc, h3, h8, hi, hl, hlc3, hx⟩
    have H8 := Lib.hid (fun i hi => Nat.le_trans (h8 i hi) (show 8 ≤ 4194304 by omega))
    have hr1 := Lib.hid hr
    have hi1 := Lib.hid hi
    have hx1 := Lib.hid hx
    have hl10 : L.length ≤ 1048576 := by omega
    clear h8 hr hx hi
    go_wp2_with fail
    refine (iWeakStates_c st p q a cap ll a3 c3 L x _ (hr1.out.ext (by (repeat (first | exact Ext.refl _ | assumption | refine Ext.alloc ?_ _ | refine Ext.drewN ?_ _ | refine Ext.drew ?_)))) (by omega) H8.out (hi1.out.ext (by (repeat (first | exact Ext.refl _ | assumption | refine Ext.alloc ?_ _ | refine Ext.drewN ?_ _ | refine Ext.drew ?_)))) hl10).mono ?_
    rintro e w2 ⟨rfl, y⟩
    have hb2 := Lib.hid ((box_made w1 28 st p q (.slice a ll.length cap)).ext y)
    obtain ⟨k0, k1, k2, k3⟩ := hb2.out.out
    have zb := hb2.out.lt
    have hr2 := Lib.hid ((hr1.out.ext (by (repeat (first | exact Ext.refl _ | assumption | refine Ext.alloc ?_ _ | refine Ext.drewN ?_ _ | refine Ext.drew ?_)))).ext y)
    have hi2 := Lib.hid ((hi1.out.ext (by (repeat (first | exact Ext.refl _ | assumption | refine Ext.alloc ?_ _ | refine Ext.drewN ?_ _ | refine Ext.drew ?_)))).ext y)
    have hx2 := Lib.hid ((hx1.out.trans (by (repeat (first | exact Ext.refl _ | assumption | refine Ext.alloc ?_ _ | refine Ext.drewN ?_ _ | refine Ext.drew ?_)))).trans y)
    clear y hr1 hx1 hi1
    have hne : (weakF st p q ll L x != weakF st p q ll L x) = false := by simp
    go_wp2_with fail
    refine (sWeakStates_c st p q a cap ll a3 c3 L x _ (hr2.out.ext (by (repeat (first | exact Ext.refl _ | assumption | refine Ext.alloc ?_ _ | refine Ext.drewN ?_ _ | refine Ext.drew ?_)))) (by omega) H8.out (hi2.out.ext (by (repeat (first | exact Ext.refl _ | assumption | refine Ext.alloc ?_ _ | refine Ext.drewN ?_ _ | refine Ext.drew ?_)))) hl10 hlc3).mono ?_
    rintro e w3 ⟨rfl, y⟩
    have hb3 := Lib.hid ((hb2.out.ext (by (repeat (first | exact Ext.refl _ | assumption | refine Ext.alloc ?_ _ | refine Ext.drewN ?_ _ | refine Ext.drew ?_)))).ext y)
    have hr3 := Lib.hid ((hr2.out.ext (by (repeat (first | exact Ext.refl _ | assumption | refine Ext.alloc ?_ _ | refine Ext.drewN ?_ _ | refine Ext.drew ?_)))).ext y)
    have hi3 := Lib.hid ((hi2.out.ext (by (repeat (first | exact Ext.refl _ | assumption | refine Ext.alloc ?_ _ | refine Ext.drewN ?_ _ | refine Ext.drew ?_)))).ext y)
    have hx3 := Lib.hid ((hx2.out.trans (by (repeat (first | exact Ext.refl _ | assumption | refine Ext.alloc ?_ _ | refine Ext.drewN ?_ _ | refine Ext.drew ?_)))).trans y)
    clear y k0 k1 k2 k3 zb hb2 hr2 hx2 hi2
    obtain ⟨k0, k1, k2, k3⟩ := hb3.out.out
    have zb := hb3.out.lt
    rcases weakF_cases st p q ll L x with e0 | ⟨P, Q, X, rfl, rfl, rfl, hv, hs, h1, h5, hX, hll, e0⟩
    · go_wp2_with fail
      refine (alive_c _).mono ?_
      rintro e w5 ⟨rfl, rfl⟩
      have hx4 := hx3.out.trans (show Ext w3 _ by (repeat (first | exact Ext.refl _ | assumption | refine Ext.alloc ?_ _ | refine Ext.drewN ?_ _ | refine Ext.drew ?_)))
      go_wp2
      go_ret
      exact ⟨rfl, hx4⟩
    · obtain ⟨hg, -⟩ := treeOf_valid hs
      have HF : rowsF st P Q ll L = (treeOf L).rows P Q st ll := by unfold rowsF; rw [hv, hs, Int.toNat_natCast]; rfl
      have hrel := Kt.rows_rel P Q st ll (by omega) hll (treeOf L) hg
      have hwl := Kt.weak_lt P Q st ll (treeOf L) X hX
      have HBit : Hid (∀ k, k < st → ((treeOf L).weak P Q st ll X).testBit k = decide (andN (natAt ((treeOf L).rows P Q st ll) k) X = natAt ((treeOf L).rows P Q st ll) k)) := fun k hk => by
        rw [Bool.eq_iff_iff, decide_eq_true_eq, weak_bits P Q st ll h5 hll (treeOf L) hg X hX k hk]
        exact ⟨andN_of_sub, sub_of_andN⟩
      have CR : Hid (∀ w', Ext w3 w' → Calls Try.prog 23 #[modelV st P Q a ll.length cap, .slice a3 L.length c3] w' (RetI 3 w' ((treeOf L).rows P Q st ll))) := fun w' hx => by
        have := iRowsOf_c st P Q a cap ll a3 c3 L w' (hr3.out.ext hx) (by omega) H8.out (hi3.out.ext hx) hl10
        rw [HF] at this; exact this
      have hwl2 : (treeOf L).weak P Q st ll X < pow2 st := hwl
      have hX2 : X < pow2 st := hX
      have hps : pow2 st ≤ 32 := pow2_le st 5 h5
      have hpc := pow2_cast st
      have HLen := Lib.hid hrel.len
      have HSt := Lib.hid hrel.sets
      clear hv hs hll hg HF hrel hwl hX hne
      generalize (treeOf L).weak P Q st ll X = N at *
      generalize (treeOf L).rows P Q st ll = R at *
      generalize pow2 st = ps at *
      go_wp2_with fail
      refine (CR.out _ (by (repeat (first | exact Ext.refl _ | assumption | refine Ext.alloc ?_ _ | refine Ext.drewN ?_ _ | refine Ext.drew ?_)))).mono ?_
      rintro e w4 ⟨v4, rfl, o4, y⟩
      have hb4 := Lib.hid ((hb3.out.ext (by (repeat (first | exact Ext.refl _ | assumption | refine Ext.alloc ?_ _ | refine Ext.drewN ?_ _ | refine Ext.drew ?_)))).ext y)
      have hx4 := Lib.hid ((hx3.out.trans (by (repeat (first | exact Ext.refl _ | assumption | refine Ext.alloc ?_ _ | refine Ext.drewN ?_ _ | refine Ext.drew ?_)))).trans y)
      obtain ⟨a4, c4, rfl, i4⟩ := o4.shape
      rw [HLen.out]
      obtain ⟨b5, o5, p5, q5⟩ := i4
      obtain ⟨rfl, z5⟩ := p5 (by rw [HLen.out]; exact h1)
      have Q5 := Lib.hid q5
      clear y o4 p5 q5 k0 k1 k2 k3 zb CR
      go_wp2
      go_loopw [8] (fun i wr => Hid (∃ k : Nat, k ≤ st ∧ i = .int .i64 k ∧ ∃ m, wr = w4.drewN m)) (fun i _ => st - (intOf i).toNat)
      case atStart => exact Lib.hid ⟨0, Nat.zero_le _, rfl, 0, rfl⟩
      case round =>
        obtain ⟨k, hk, rfl, m, rfl⟩ := hrel.out
        clear hrel
        obtain ⟨k0, k1, k2, k3⟩ := hb4.out.out
        have zb := hb4.out.lt
        by_cases hlt : k < st
        · have hc := Q5.out k (by rw [HLen.out]; exact hlt)
          rw [HSt.out.eq k (by rw [HLen.out]; exact hlt)] at hc
          have hn4 := HSt.out.lt k (by rw [HLen.out]; exact hlt)
          have hbit := Lib.hid (HBit.out k hlt)
          have hta := tmod_bit N k
          have hea := emod_bit N k
          have hpq := pow_le_big k 5 (by omega)
          have hpr := pow_pos' k
          generalize natAt R k = M at *
          by_cases hM : andN M X = M
          · have hb1 : N.testBit k = true := by rw [hbit.out, decide_eq_true hM]
            rw [hb1] at hta hea
            simp only [Bool.toNat_true] at hta hea
            have hboth : Hid (∀ w0 : World, Calls Try.prog 26 #[.int .i64 M, .int .i64 X] w0 fun e w' => e = .returned (.int .i64 M) ∧ w0 = w') := fun w0 => by
              have := both_c M X w0 hn4 (by omega)
              rw [hM] at this; exact this
            clear hM hbit hb1
            go_wp2
            go_quiet ((go_at_call 26; exact quiet_same_add (hboth.out _)))
            go_wp2
            go_roundw
            case rel => exact Lib.hid ⟨k + 1, by omega, by go_num, _, rfl⟩
            case measure => simp [intOf]; omega
          · have hb1 : N.testBit k = false := by rw [hbit.out, decide_eq_false hM]
            rw [hb1] at hta hea
            simp only [Bool.toNat_false] at hta hea
            have hboth : Hid (∀ w0 : World, Calls Try.prog 26 #[.int .i64 M, .int .i64 X] w0 fun e w' => e = .returned (.int .i64 (andN M X : Nat)) ∧ w0 = w') := fun w0 => both_c M X w0 hn4 (by omega)
            have hq : (((andN M X : Nat) : Int) == (M : Int)) = false := by simp; omega
            clear hM hbit hb1
            generalize andN M X = MX at *
            go_wp2
            go_quiet ((go_at_call 26; exact quiet_same_add (hboth.out _)))
            go_wp2
            go_roundw
            case rel => exact Lib.hid ⟨k + 1, by omega, by go_num, _, rfl⟩
            case measure => simp [intOf]; omega
        · obtain rfl : k = st := by omega
          go_wp2
          go_ret
          exact ⟨by first | (simp; done) | (simp; omega), hx4.out.trans (by (repeat (first | exact Ext.refl _ | assumption | refine Ext.alloc ?_ _ | refine Ext.drewN ?_ _ | refine Ext.drew ?_)))⟩
  · go_enter Try.func7, Try.ntmps7
    go_wp2
    go_ret
    exact ⟨rfl, Ext.refl _⟩
end Go.Proofs.Ytgpfebpjiddjjaa
