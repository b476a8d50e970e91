/- Merged texts: contracts and plain lemmas (I, J). -/
import Derived.Test.YtlaamecfknkmlaaDoorMh4
import Derived.Test.YtlaamecfknkmlaaDoorMh6
import Derived.Test.YtlaamecfknkmlaaDoorMh5
import Derived.Deep.RegionHeld3
/- Contracts: the reference's ModelValid; atoms of states and the states of tests. -/
namespace Go.Proofs.YtlaamecfknkmlaaDoor
set_option linter.unusedVariables false
open Go.RowKit Go.Kt

theorem mvB_not (st p q : Int) (ll : List (List Int)) (k : Nat) (hk : k < ll.length) (h : rvB st (rowI ll k) = false) : mvB st p q ll = false := by
  simp only [mvB, decide_eq_false_iff_not]
  rintro ⟨_, _, _, _, _, d⟩
  rw [d _ (rowI_mem ll k hk)] at h
  cases h
theorem mvB_all (st p q : Int) (ll : List (List Int)) (h : ∀ j, j < ll.length → rvB st (rowI ll j) = true) :
    mvB st p q ll = (inB st 1 5 && (inB p 0 (2 ^ st.toNat - 1) && (inB q 0 (2 ^ st.toNat - 1) && ((ll.length : Int) == 3)))) := by
  rw [Bool.eq_iff_iff]
  simp only [mvB, inB, decide_eq_true_eq, Bool.and_eq_true, beq_iff_eq]
  constructor
  · rintro ⟨a, b, c, d, e, _⟩; exact ⟨⟨a, b⟩, ⟨c.1, by omega⟩, ⟨d.1, by omega⟩, by omega⟩
  · rintro ⟨⟨a, b⟩, c, d, e⟩
    refine ⟨a, b, ⟨c.1, by omega⟩, ⟨d.1, by omega⟩, by omega, fun r hr => ?_⟩
    obtain ⟨j, hj, rfl⟩ := List.getElem_of_mem hr
    have := h j hj
    rwa [rowI_getElem ll j hj] at this

theorem sModelValid_c (st p q : Int) (a : Option Addr) (cap : Nat) (ll : List (List Int)) (w : World) (hr : RowsAt w a ll) (hlen : ll.length ≤ 4194304) (hm : ∀ i, i < ll.length → (rowI ll i).length ≤ 4194304) :
    Calls Tryd.prog 23 #[modelV st p q a ll.length cap] w fun e w' => e = .returned (.bool (mvB st p q ll)) ∧ Ext w w' := by
  have HR := Lib.hid hr
  obtain ⟨b1, o1, p1, q1⟩ := hr
  have P1 := Lib.hid p1
  have Q1 := Lib.hid q1
  have HM := Lib.hid hm
  clear p1 q1 hm
  go_enter Tryd.func23, Tryd.ntmps23
  go_wp2
  go_loopw [3] (fun i wr => Hid (∃ k : Nat, k ≤ ll.length ∧ i = .int .i64 k ∧ (∀ j, j < k → rvB st (rowI ll j) = true) ∧ ∃ m, wr = (w.alloc (.cells #[.int .i64 st, .int .i64 p, .int .i64 q, .slice a ll.length cap] 25)).drewN m)) (fun i _ => ll.length - (intOf i).toNat)
  case atStart => exact Lib.hid ⟨0, Nat.zero_le _, rfl, fun j hj => absurd hj (Nat.not_lt_zero _), 0, rfl⟩
  case round =>
    obtain ⟨k, hk, rfl, hno, m, rfl⟩ := hrel.out
    have HN := Lib.hid hno
    clear hrel hno
    by_cases hlt : k < ll.length
    · obtain ⟨rfl, hb⟩ := P1.out (by omega)
      obtain ⟨ai, ci, hc, hi⟩ := Q1.out k hlt
      have hml := HM.out k hlt
      have hi2 := hi.ext (Ext.alloc (Ext.refl w) (.cells #[.int .i64 st, .int .i64 p, .int .i64 q, .slice (some ⟨b1, o1, none⟩) ll.length cap] 25))
      have hne : ¬ b1 = w.heap.size := by omega
      clear hi
      cases hv : rvB st (rowI ll k)
      all_goals
        go_wp2
        go_quiet ((go_at_call 51; exact quiet_drawn_add (sRowsValid_c _ _ _ _ _ (hi2.ext ((Ext.refl _).drewN _)) (by omega))))
        go_wp2
      · go_ret
        exact ⟨by rw [mvB_not st p q ll k hlt hv]; rfl, by (repeat (first | exact Ext.refl _ | assumption | refine Ext.alloc ?_ _ | refine Ext.drewN ?_ _ | refine Ext.drew ?_))⟩
      · go_roundw
        case rel => exact Lib.hid ⟨k + 1, by omega, by go_num, upto_succ HN.out hv, by first | exact ⟨_, rfl⟩ | exact drawn2 _ _ _⟩
        case measure => simp [intOf]; omega
    · obtain rfl : k = ll.length := by omega
      have HA := Lib.hid (mvB_all st p q ll HN.out)
      by_cases hv : 1 ≤ st ∧ st ≤ 5
      · obtain ⟨s, rfl⟩ := Int.eq_ofNat_of_zero_le (show 0 ≤ st by omega)
        have hpl := pow_le_32 s (by omega)
        have hpp := pow_pos' s
        have h1 : inB (s : Int) 1 5 = true := by simp [inB]; omega
        obtain ⟨hv1, hv2⟩ := hv
        cases h2 : inB p 0 (2 ^ s - 1)
        · go_wp2_with (go_at_call 34; refine (l1In_c _ _ _ _).mono ?_; rintro e w' ⟨rfl, rfl⟩)
          go_ret
          exact ⟨by rw [HA.out, h1, Int.toNat_natCast, h2]; rfl, by (repeat (first | exact Ext.refl _ | assumption | refine Ext.alloc ?_ _ | refine Ext.drewN ?_ _ | refine Ext.drew ?_))⟩
        · cases h3 : inB q 0 (2 ^ s - 1)
          · go_wp2_with (go_at_call 34; refine (l1In_c _ _ _ _).mono ?_; rintro e w' ⟨rfl, rfl⟩)
            go_ret
            exact ⟨by rw [HA.out, h1, Int.toNat_natCast, h2, h3]; rfl, by (repeat (first | exact Ext.refl _ | assumption | refine Ext.alloc ?_ _ | refine Ext.drewN ?_ _ | refine Ext.drew ?_))⟩
          · go_wp2_with (go_at_call 34; refine (l1In_c _ _ _ _).mono ?_; rintro e w' ⟨rfl, rfl⟩)
            go_ret
            exact ⟨by rw [HA.out, h1, Int.toNat_natCast, h2, h3]; rfl, by (repeat (first | exact Ext.refl _ | assumption | refine Ext.alloc ?_ _ | refine Ext.drewN ?_ _ | refine Ext.drew ?_))⟩
      · have h1 : inB st 1 5 = false := by simp [inB]; omega
        have hv3 : st < 0 ∨ st = 0 ∨ 6 ≤ st := by omega
        clear hv
        rcases hv3 with hv3 | rfl | hv3
        all_goals
          go_wp2_with (go_at_call 34; refine (l1In_c _ _ _ _).mono ?_; rintro e w' ⟨rfl, rfl⟩)
          go_ret
          exact ⟨by rw [HA.out, h1]; rfl, by (repeat (first | exact Ext.refl _ | assumption | refine Ext.alloc ?_ _ | refine Ext.drewN ?_ _ | refine Ext.drew ?_))⟩

theorem atom_c (st : Int) (p q : Nat) (av : Value) (s : Nat) (w : World) (hp : p < 4294967296) (hq : q < 4294967296) (hs : s < 60) :
    Calls Tryd.prog 41 #[.agg #[.int .i64 st, .int .i64 p, .int .i64 q, av], .int .i64 s] w fun e w' => e = .returned (.int .i64 (atomI p q s : Nat)) ∧ Ext w w' := by
  have hbp := i64_bit p s (by omega)
  have hbq := i64_bit q s (by omega)
  cases h1 : p.testBit s
  all_goals cases h2 : q.testBit s
  all_goals
    have hr : atomI p q s = (p.testBit s).toNat + 2 * (q.testBit s).toNat := rfl
    have HR := Lib.hid hr
    rw [h1] at hbp
    rw [h2] at hbq
    simp only [Bool.toNat_false, Bool.toNat_true] at hbp hbq
    clear hr
    go_enter Tryd.func41, Tryd.ntmps41
    go_wp2
    go_quiet (fail)
    go_wp2
    go_ret
    exact ⟨by rw [HR.out, h1, h2]; rfl, by (repeat (first | exact Ext.refl _ | assumption | refine Ext.alloc ?_ _ | refine Ext.drewN ?_ _ | refine Ext.drew ?_))⟩

theorem hasState_c (st p q : Int) (av : Value) (s : Int) (w : World) :
    Calls Tryd.prog 38 #[.agg #[.int .i64 st, .int .i64 p, .int .i64 q, av], .int .i64 s] w fun e w' => e = .returned (.bool (inB s 0 (st - 1))) ∧ Ext w w' := by
  by_cases h1 : 0 ≤ s
  all_goals
    go_enter Tryd.func38, Tryd.ntmps38
    go_wp2
    go_ret
    exact ⟨by simp [inB, h1]; try omega, by (repeat (first | exact Ext.refl _ | assumption | refine Ext.alloc ?_ _ | refine Ext.drewN ?_ _ | refine Ext.drew ?_))⟩

theorem mvB_bounds {st p q : Int} {ll : List (List Int)} (h : mvB st p q ll = true) :
    ∃ (s P Q : Nat), st = s ∧ p = P ∧ q = Q ∧ 1 ≤ s ∧ s ≤ 5 ∧ P < 2 ^ s ∧ Q < 2 ^ s ∧ P < 4294967296 ∧ Q < 4294967296 ∧ ll.length = 3 ∧ ∀ i, i < 3 → rvB s (rowI ll i) = true := by
  simp only [mvB, decide_eq_true_eq] at h
  obtain ⟨h1, h2, ⟨h3, h4⟩, ⟨h5, h6⟩, h7, h8⟩ := h
  obtain ⟨s, rfl⟩ := Int.eq_ofNat_of_zero_le (show 0 ≤ st by omega)
  obtain ⟨P, rfl⟩ := Int.eq_ofNat_of_zero_le h3
  obtain ⟨Q, rfl⟩ := Int.eq_ofNat_of_zero_le h5
  rw [Int.toNat_natCast] at h4 h6
  have h4' : P < 2 ^ s := by exact_mod_cast h4
  have h6' : Q < 2 ^ s := by exact_mod_cast h6
  have hl : (2 : Nat) ^ s ≤ 2 ^ 5 := Nat.pow_le_pow_right (by decide) (by omega)
  exact ⟨s, P, Q, rfl, rfl, rfl, by omega, by omega, h4', h6', by omega, by omega, h7, fun i hi => h8 _ (rowI_mem ll i (by omega))⟩

/-- AtomOf, TestStates. -/
def atomF (st p q : Int) (ll : List (List Int)) (s : Int) : Int := if mvB st p q ll && inB s 0 (st - 1) then ((atomI p q s.toNat : Nat) : Int) else -1
def testF (st p q : Int) (ll : List (List Int)) (t : Int) : Int := if mvB st p q ll && inB t 0 15 then ((tsTo p q t.toNat st.toNat : Nat) : Int) else -1



theorem iTestValid_c (t : Int) (w : World) :
    Calls Tryd.prog 43 #[.int .i64 t] w fun e w' => e = .returned (.bool (inB t 0 15)) ∧ w = w' := by
  by_cases h1 : 0 ≤ t
  all_goals
    go_enter Tryd.func43, Tryd.ntmps43
    go_wp2
    go_ret
    exact ⟨by simp [inB, h1]; try omega, rfl⟩
theorem sTestValid_c (t : Int) (w : World) :
    Calls Tryd.prog 35 #[.int .i64 t] w fun e w' => e = .returned (.bool (inB t 0 15)) ∧ w = w' := by
  go_enter Tryd.func35, Tryd.ntmps35
  go_wp2_with (go_at_call 34; refine (l1In_c _ _ _ _).mono ?_; rintro e w' ⟨rfl, rfl⟩)
  go_ret
  exact ⟨rfl, rfl⟩
/-- TestNot. -/
def notF (t : Int) : Int := if inB t 0 15 then 15 - t else -1
theorem andNot15 (t : Nat) (h : t ≤ 15) : bits .andNot .i64 15 (t : Int) = 15 - (t : Int) := by
  have : t = 0 ∨ t = 1 ∨ t = 2 ∨ t = 3 ∨ t = 4 ∨ t = 5 ∨ t = 6 ∨ t = 7 ∨ t = 8 ∨ t = 9 ∨ t = 10 ∨ t = 11 ∨ t = 12 ∨ t = 13 ∨ t = 14 ∨ t = 15 := by omega
  rcases this with rfl | rfl | rfl | rfl | rfl | rfl | rfl | rfl | rfl | rfl | rfl | rfl | rfl | rfl | rfl | rfl <;> rfl
theorem iTestNot_c (t : Int) (w : World) :
    Calls Tryd.prog 25 #[.int .i64 t] w fun e w' => e = .returned (.int .i64 (notF t)) ∧ w = w' := by
  cases h : inB t 0 15
  · have HF : Hid (notF t = -1) := by unfold Hid notF; rw [h]; rfl
    go_enter Tryd.func25, Tryd.ntmps25
    go_wp2_with (go_at_call 43; refine (iTestValid_c _ _).mono ?_; rintro e w' ⟨rfl, rfl⟩)
    go_ret
    exact ⟨by rw [HF.out]; rfl, rfl⟩
  · have hb : 0 ≤ t ∧ t ≤ 15 := by simpa [inB] using h
    obtain ⟨T, rfl⟩ := Int.eq_ofNat_of_zero_le hb.1
    have HF : Hid (notF T = 15 - (T : Int)) := by unfold Hid notF; rw [h]; rfl
    have ha := andNot15 T (by omega)
    go_enter Tryd.func25, Tryd.ntmps25
    go_wp2_with (go_at_call 43; refine (iTestValid_c _ _).mono ?_; rintro e w' ⟨rfl, rfl⟩)
    go_ret
    exact ⟨by rw [HF.out]; rfl, rfl⟩

theorem testStates_c (sn p q : Nat) (av : Value) (t : Nat) (w : World) (hs : sn ≤ 5) (hp : p < 4294967296) (hq : q < 4294967296) (ht : t < 65536) :
    Calls Tryd.prog 71 #[.agg #[.int .i64 sn, .int .i64 p, .int .i64 q, av], .int .i64 t] w fun e w' => e = .returned (.int .i64 (tsTo p q t sn : Nat)) ∧ Ext w w' := by
  go_enter Tryd.func71, Tryd.ntmps71
  go_wp2
  go_loopw [5, 9] (fun o i wr => Hid (∃ k : Nat, k ≤ sn ∧ i = .int .i64 k ∧ o = .int .i64 (tsTo p q t k : Nat) ∧ Ext (w.alloc (.cells #[.int .i64 sn, .int .i64 p, .int .i64 q, av] 25)) wr)) (fun _ i _ => sn - (intOf i).toNat)
  case atStart => exact Lib.hid ⟨0, Nat.zero_le _, rfl, rfl, Ext.refl _⟩
  case round =>
    obtain ⟨k, hk, rfl, rfl, hx⟩ := hrel.out
    clear hrel
    by_cases hlt : k < sn
    · obtain ⟨hc, hf⟩ := hx.cells
      have hat := atomI_le p q k
      have hpc := pow2_cast k
      have hp1 : pow2 k ≤ 16 := pow2_le k 4 (by omega)
      have hl := tsTo_lt p q t k
      have hl2 : tsTo p q t k < 32 := Nat.lt_of_lt_of_le hl (Nat.pow_le_pow_right (by decide) (show k ≤ 5 by omega))
      have ho := i64_orN (tsTo p q t k) (pow2 k) (by omega) (by omega)
      have HO := Lib.hid (tsTo_or p q t k)
      have HS := Lib.hid (tsTo_succ p q t k)
      clear hl
      cases hb : t.testBit (atomI p q k)
      all_goals
        go_wp2_with fail
        refine (atom_c _ _ _ _ _ _ hp hq (by omega)).mono ?_
        rintro e w2 ⟨rfl, hx2⟩
        have hx3 := hx.trans hx2
        clear hx2 hc hf
        go_wp2_with (go_at_call 40; refine (holds_c _ _ _ (by omega) (by omega)).mono ?_; rintro e w' ⟨rfl, rfl⟩)
        go_roundw
      case rel => exact Lib.hid ⟨k + 1, by omega, by go_num, by rw [HS.out, hb]; rfl, hx3⟩
      case measure => simp [intOf]; omega
      case rel => exact Lib.hid ⟨k + 1, by omega, by go_num, by rw [← HO.out hb], hx3⟩
      case measure => simp [intOf]; omega
    · obtain rfl : k = sn := by omega
      go_wp2
      go_ret
      exact ⟨rfl, Ext.trans (by (repeat (first | exact Ext.refl _ | assumption | refine Ext.alloc ?_ _ | refine Ext.drewN ?_ _ | refine Ext.drew ?_))) hx⟩


end Go.Proofs.YtlaamecfknkmlaaDoor
/- All contracts of models that are there so far, under one name. -/
