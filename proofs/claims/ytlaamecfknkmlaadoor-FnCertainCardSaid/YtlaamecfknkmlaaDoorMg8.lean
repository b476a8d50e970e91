/- Merged texts: contracts and plain lemmas (I, J, K). -/
import Derived.Test.YtlaamecfknkmlaaDoorMg6
import Derived.Test.YtlaamecfknkmlaaDoorMg3
import Derived.Test.YtlaamecfknkmlaaDoorMg7
import Derived.Deep.RegionHeld3
/- Contracts: the reference's ModelValid; atoms of states and the states of tests. -/
namespace Go.Proofs.YtlaamecfknkmlaaDoor
set_option linter.unusedVariables false
open Go.RowKit Go.Kt

theorem mvB_not (st p q : Int) (ll : List (List Int)) (k : Nat) (hk : k < ll.length) (h : rvB st (rowI ll k) = false) : mvB st p q ll = false := by
  simp only [mvB, decide_eq_false_iff_not]
  rintro ⟨_, _, _, _, _, d⟩
  rw [d _ (rowI_mem ll k hk)] at h
  cases h
theorem mvB_all (st p q : Int) (ll : List (List Int)) (h : ∀ j, j < ll.length → rvB st (rowI ll j) = true) :
    mvB st p q ll = (inB st 1 5 && (inB p 0 (2 ^ st.toNat - 1) && (inB q 0 (2 ^ st.toNat - 1) && ((ll.length : Int) == 3)))) := by
  rw [Bool.eq_iff_iff]
  simp only [mvB, inB, decide_eq_true_eq, Bool.and_eq_true, beq_iff_eq]
  constructor
  · rintro ⟨a, b, c, d, e, _⟩; exact ⟨⟨a, b⟩, ⟨c.1, by omega⟩, ⟨d.1, by omega⟩, by omega⟩
  · rintro ⟨⟨a, b⟩, c, d, e⟩
    refine ⟨a, b, ⟨c.1, by omega⟩, ⟨d.1, by omega⟩, by omega, fun r hr => ?_⟩
    obtain ⟨j, hj, rfl⟩ := List.getElem_of_mem hr
    have := h j hj
    rwa [rowI_getElem ll j hj] at this

theorem sModelValid_c (st p q : Int) (a : Option Addr) (cap : Nat) (ll : List (List Int)) (w : World) (hr : RowsAt w a ll) (hlen : ll.length ≤ 4194304) (hm : ∀ i, i < ll.length → (rowI ll i).length ≤ 4194304) :
    Calls Tryd.prog 23 #[modelV st p q a ll.length cap] w fun e w' => e = .returned (.bool (mvB st p q ll)) ∧ Ext w w' := by
  have HR := Lib.hid hr
  obtain ⟨b1, o1, p1, q1⟩ := hr
  have P1 := Lib.hid p1
  have Q1 := Lib.hid q1
  have HM := Lib.hid hm
  clear p1 q1 hm
  go_enter Tryd.func23, Tryd.ntmps23
  go_wp2
  go_loopw [3] (fun i wr => Hid (∃ k : Nat, k ≤ ll.length ∧ i = .int .i64 k ∧ (∀ j, j < k → rvB st (rowI ll j) = true) ∧ ∃ m, wr = (w.alloc (.cells #[.int .i64 st, .int .i64 p, .int .i64 q, .slice a ll.length cap] 25)).drewN m)) (fun i _ => ll.length - (intOf i).toNat)
  case atStart => exact Lib.hid ⟨0, Nat.zero_le _, rfl, fun j hj => absurd hj (Nat.not_lt_zero _), 0, rfl⟩
  case round =>
    obtain ⟨k, hk, rfl, hno, m, rfl⟩ := hrel.out
    have HN := Lib.hid hno
    clear hrel hno
    by_cases hlt : k < ll.length
    · obtain ⟨rfl, hb⟩ := P1.out (by omega)
      obtain ⟨ai, ci, hc, hi⟩ := Q1.out k hlt
      have hml := HM.out k hlt
      have hi2 := hi.ext (Ext.alloc (Ext.refl w) (.cells #[.int .i64 st, .int .i64 p, .int .i64 q, .slice (some ⟨b1, o1, none⟩) ll.length cap] 25))
      have hne : ¬ b1 = w.heap.size := by omega
      clear hi
      cases hv : rvB st (rowI ll k)
      all_goals
        go_wp2
        go_quiet ((go_at_call 51; exact quiet_drawn_add (sRowsValid_c _ _ _ _ _ (hi2.ext ((Ext.refl _).drewN _)) (by omega))))
        go_wp2
      · go_ret
        exact ⟨by rw [mvB_not st p q ll k hlt hv]; rfl, by (repeat (first | exact Ext.refl _ | assumption | refine Ext.alloc ?_ _ | refine Ext.drewN ?_ _ | refine Ext.drew ?_))⟩
      · go_roundw
        case rel => exact Lib.hid ⟨k + 1, by omega, by go_num, upto_succ HN.out hv, by first | exact ⟨_, rfl⟩ | exact drawn2 _ _ _⟩
        case measure => simp [intOf]; omega
    · obtain rfl : k = ll.length := by omega
      have HA := Lib.hid (mvB_all st p q ll HN.out)
      by_cases hv : 1 ≤ st ∧ st ≤ 5
      · obtain ⟨s, rfl⟩ := Int.eq_ofNat_of_zero_le (show 0 ≤ st by omega)
        have hpl := pow_le_32 s (by omega)
        have hpp := pow_pos' s
        have h1 : inB (s : Int) 1 5 = true := by simp [inB]; omega
        obtain ⟨hv1, hv2⟩ := hv
        cases h2 : inB p 0 (2 ^ s - 1)
        · go_wp2_with (go_at_call 34; refine (l1In_c _ _ _ _).mono ?_; rintro e w' ⟨rfl, rfl⟩)
          go_ret
          exact ⟨by rw [HA.out, h1, Int.toNat_natCast, h2]; rfl, by (repeat (first | exact Ext.refl _ | assumption | refine Ext.alloc ?_ _ | refine Ext.drewN ?_ _ | refine Ext.drew ?_))⟩
        · cases h3 : inB q 0 (2 ^ s - 1)
          · go_wp2_with (go_at_call 34; refine (l1In_c _ _ _ _).mono ?_; rintro e w' ⟨rfl, rfl⟩)
            go_ret
            exact ⟨by rw [HA.out, h1, Int.toNat_natCast, h2, h3]; rfl, by (repeat (first | exact Ext.refl _ | assumption | refine Ext.alloc ?_ _ | refine Ext.drewN ?_ _ | refine Ext.drew ?_))⟩
          · go_wp2_with (go_at_call 34; refine (l1In_c _ _ _ _).mono ?_; rintro e w' ⟨rfl, rfl⟩)
            go_ret
            exact ⟨by rw [HA.out, h1, Int.toNat_natCast, h2, h3]; rfl, by (repeat (first | exact Ext.refl _ | assumption | refine Ext.alloc ?_ _ | refine Ext.drewN ?_ _ | refine Ext.drew ?_))⟩
      · have h1 : inB st 1 5 = false := by simp [inB]; omega
        have hv3 : st < 0 ∨ st = 0 ∨ 6 ≤ st := by omega
        clear hv
        rcases hv3 with hv3 | rfl | hv3
        all_goals
          go_wp2_with (go_at_call 34; refine (l1In_c _ _ _ _).mono ?_; rintro e w' ⟨rfl, rfl⟩)
          go_ret
          exact ⟨by rw [HA.out, h1]; rfl, by (repeat (first | exact Ext.refl _ | assumption | refine Ext.alloc ?_ _ | refine Ext.drewN ?_ _ | refine Ext.drew ?_))⟩

theorem atom_c (st : Int) (p q : Nat) (av : Value) (s : Nat) (w : World) (hp : p < 4294967296) (hq : q < 4294967296) (hs : s < 60) :
    Calls Tryd.prog 41 #[.agg #[.int .i64 st, .int .i64 p, .int .i64 q, av], .int .i64 s] w fun e w' => e = .returned (.int .i64 (atomI p q s : Nat)) ∧ Ext w w' := by
  have hbp := i64_bit p s (by omega)
  have hbq := i64_bit q s (by omega)
  cases h1 : p.testBit s
  all_goals cases h2 : q.testBit s
  all_goals
    have hr : atomI p q s = (p.testBit s).toNat + 2 * (q.testBit s).toNat := rfl
    have HR := Lib.hid hr
    rw [h1] at hbp
    rw [h2] at hbq
    simp only [Bool.toNat_false, Bool.toNat_true] at hbp hbq
    clear hr
    go_enter Tryd.func41, Tryd.ntmps41
    go_wp2
    go_quiet (fail)
    go_wp2
    go_ret
    exact ⟨by rw [HR.out, h1, h2]; rfl, by (repeat (first | exact Ext.refl _ | assumption | refine Ext.alloc ?_ _ | refine Ext.drewN ?_ _ | refine Ext.drew ?_))⟩

theorem hasState_c (st p q : Int) (av : Value) (s : Int) (w : World) :
    Calls Tryd.prog 38 #[.agg #[.int .i64 st, .int .i64 p, .int .i64 q, av], .int .i64 s] w fun e w' => e = .returned (.bool (inB s 0 (st - 1))) ∧ Ext w w' := by
  by_cases h1 : 0 ≤ s
  all_goals
    go_enter Tryd.func38, Tryd.ntmps38
    go_wp2
    go_ret
    exact ⟨by simp [inB, h1]; try omega, by (repeat (first | exact Ext.refl _ | assumption | refine Ext.alloc ?_ _ | refine Ext.drewN ?_ _ | refine Ext.drew ?_))⟩

theorem mvB_bounds {st p q : Int} {ll : List (List Int)} (h : mvB st p q ll = true) :
    ∃ (s P Q : Nat), st = s ∧ p = P ∧ q = Q ∧ 1 ≤ s ∧ s ≤ 5 ∧ P < 2 ^ s ∧ Q < 2 ^ s ∧ P < 4294967296 ∧ Q < 4294967296 ∧ ll.length = 3 ∧ ∀ i, i < 3 → rvB s (rowI ll i) = true := by
  simp only [mvB, decide_eq_true_eq] at h
  obtain ⟨h1, h2, ⟨h3, h4⟩, ⟨h5, h6⟩, h7, h8⟩ := h
  obtain ⟨s, rfl⟩ := Int.eq_ofNat_of_zero_le (show 0 ≤ st by omega)
  obtain ⟨P, rfl⟩ := Int.eq_ofNat_of_zero_le h3
  obtain ⟨Q, rfl⟩ := Int.eq_ofNat_of_zero_le h5
  rw [Int.toNat_natCast] at h4 h6
  have h4' : P < 2 ^ s := by exact_mod_cast h4
  have h6' : Q < 2 ^ s := by exact_mod_cast h6
  have hl : (2 : Nat) ^ s ≤ 2 ^ 5 := Nat.pow_le_pow_right (by decide) (by omega)
  exact ⟨s, P, Q, rfl, rfl, rfl, by omega, by omega, h4', h6', by omega, by omega, h7, fun i hi => h8 _ (rowI_mem ll i (by omega))⟩

/-- AtomOf, TestStates. -/
def atomF (st p q : Int) (ll : List (List Int)) (s : Int) : Int := if mvB st p q ll && inB s 0 (st - 1) then ((atomI p q s.toNat : Nat) : Int) else -1
def testF (st p q : Int) (ll : List (List Int)) (t : Int) : Int := if mvB st p q ll && inB t 0 15 then ((tsTo p q t.toNat st.toNat : Nat) : Int) else -1



theorem iTestValid_c (t : Int) (w : World) :
    Calls Tryd.prog 43 #[.int .i64 t] w fun e w' => e = .returned (.bool (inB t 0 15)) ∧ w = w' := by
  by_cases h1 : 0 ≤ t
  all_goals
    go_enter Tryd.func43, Tryd.ntmps43
    go_wp2
    go_ret
    exact ⟨by simp [inB, h1]; try omega, rfl⟩
theorem sTestValid_c (t : Int) (w : World) :
    Calls Tryd.prog 35 #[.int .i64 t] w fun e w' => e = .returned (.bool (inB t 0 15)) ∧ w = w' := by
  go_enter Tryd.func35, Tryd.ntmps35
  go_wp2_with (go_at_call 34; refine (l1In_c _ _ _ _).mono ?_; rintro e w' ⟨rfl, rfl⟩)
  go_ret
  exact ⟨rfl, rfl⟩
/-- TestNot. -/
def notF (t : Int) : Int := if inB t 0 15 then 15 - t else -1
theorem andNot15 (t : Nat) (h : t ≤ 15) : bits .andNot .i64 15 (t : Int) = 15 - (t : Int) := by
  have : t = 0 ∨ t = 1 ∨ t = 2 ∨ t = 3 ∨ t = 4 ∨ t = 5 ∨ t = 6 ∨ t = 7 ∨ t = 8 ∨ t = 9 ∨ t = 10 ∨ t = 11 ∨ t = 12 ∨ t = 13 ∨ t = 14 ∨ t = 15 := by omega
  rcases this with rfl | rfl | rfl | rfl | rfl | rfl | rfl | rfl | rfl | rfl | rfl | rfl | rfl | rfl | rfl | rfl <;> rfl
theorem iTestNot_c (t : Int) (w : World) :
    Calls Tryd.prog 25 #[.int .i64 t] w fun e w' => e = .returned (.int .i64 (notF t)) ∧ w = w' := by
  cases h : inB t 0 15
  · have HF : Hid (notF t = -1) := by unfold Hid notF; rw [h]; rfl
    go_enter Tryd.func25, Tryd.ntmps25
    go_wp2_with (go_at_call 43; refine (iTestValid_c _ _).mono ?_; rintro e w' ⟨rfl, rfl⟩)
    go_ret
    exact ⟨by rw [HF.out]; rfl, rfl⟩
  · have hb : 0 ≤ t ∧ t ≤ 15 := by simpa [inB] using h
    obtain ⟨T, rfl⟩ := Int.eq_ofNat_of_zero_le hb.1
    have HF : Hid (notF T = 15 - (T : Int)) := by unfold Hid notF; rw [h]; rfl
    have ha := andNot15 T (by omega)
    go_enter Tryd.func25, Tryd.ntmps25
    go_wp2_with (go_at_call 43; refine (iTestValid_c _ _).mono ?_; rintro e w' ⟨rfl, rfl⟩)
    go_ret
    exact ⟨by rw [HF.out]; rfl, rfl⟩

theorem testStates_c (sn p q : Nat) (av : Value) (t : Nat) (w : World) (hs : sn ≤ 5) (hp : p < 4294967296) (hq : q < 4294967296) (ht : t < 65536) :
    Calls Tryd.prog 71 #[.agg #[.int .i64 sn, .int .i64 p, .int .i64 q, av], .int .i64 t] w fun e w' => e = .returned (.int .i64 (tsTo p q t sn : Nat)) ∧ Ext w w' := by
  go_enter Tryd.func71, Tryd.ntmps71
  go_wp2
  go_loopw [5, 9] (fun o i wr => Hid (∃ k : Nat, k ≤ sn ∧ i = .int .i64 k ∧ o = .int .i64 (tsTo p q t k : Nat) ∧ Ext (w.alloc (.cells #[.int .i64 sn, .int .i64 p, .int .i64 q, av] 25)) wr)) (fun _ i _ => sn - (intOf i).toNat)
  case atStart => exact Lib.hid ⟨0, Nat.zero_le _, rfl, rfl, Ext.refl _⟩
  case round =>
    obtain ⟨k, hk, rfl, rfl, hx⟩ := hrel.out
    clear hrel
    by_cases hlt : k < sn
    · obtain ⟨hc, hf⟩ := hx.cells
      have hat := atomI_le p q k
      have hpc := pow2_cast k
      have hp1 : pow2 k ≤ 16 := pow2_le k 4 (by omega)
      have hl := tsTo_lt p q t k
      have hl2 : tsTo p q t k < 32 := Nat.lt_of_lt_of_le hl (Nat.pow_le_pow_right (by decide) (show k ≤ 5 by omega))
      have ho := i64_orN (tsTo p q t k) (pow2 k) (by omega) (by omega)
      have HO := Lib.hid (tsTo_or p q t k)
      have HS := Lib.hid (tsTo_succ p q t k)
      clear hl
      cases hb : t.testBit (atomI p q k)
      all_goals
        go_wp2_with fail
        refine (atom_c _ _ _ _ _ _ hp hq (by omega)).mono ?_
        rintro e w2 ⟨rfl, hx2⟩
        have hx3 := hx.trans hx2
        clear hx2 hc hf
        go_wp2_with (go_at_call 40; refine (holds_c _ _ _ (by omega) (by omega)).mono ?_; rintro e w' ⟨rfl, rfl⟩)
        go_roundw
      case rel => exact Lib.hid ⟨k + 1, by omega, by go_num, by rw [HS.out, hb]; rfl, hx3⟩
      case measure => simp [intOf]; omega
      case rel => exact Lib.hid ⟨k + 1, by omega, by go_num, by rw [← HO.out hb], hx3⟩
      case measure => simp [intOf]; omega
    · obtain rfl : k = sn := by omega
      go_wp2
      go_ret
      exact ⟨rfl, Ext.trans (by (repeat (first | exact Ext.refl _ | assumption | refine Ext.alloc ?_ _ | refine Ext.drewN ?_ _ | refine Ext.drew ?_))) hx⟩


end Go.Proofs.YtlaamecfknkmlaaDoor
/- All contracts of models that are there so far, under one name. -/
/- Contracts: models whose actions lead to just one state. -/
namespace Go.Proofs.YtlaamecfknkmlaaDoor
set_option linter.unusedVariables false
open Go.RowKit Go.Kt

/-- Certain. -/
def allOne (r : List Int) : Bool := (List.range r.length).all fun j => oneN (natAt r j)
def certF (st p q : Int) (ll : List (List Int)) : Bool := mvB st p q ll && (List.range ll.length).all fun k => allOne (rowI ll k)
theorem allOne_of {r : List Int} (h : ∀ j, j < r.length → oneN (natAt r j) = true) : allOne r = true := by
  unfold allOne; rw [List.all_eq_true]; intro j hj; exact h j (List.mem_range.1 hj)
theorem allOne_not {r : List Int} {j : Nat} (hj : j < r.length) (h : oneN (natAt r j) = false) : allOne r = false := by
  unfold allOne; rw [List.all_eq_false]; exact ⟨j, List.mem_range.2 hj, by simp [h]⟩
theorem certF_of {st p q : Int} {ll : List (List Int)} (hv : mvB st p q ll = true) (h : ∀ j, j < ll.length → allOne (rowI ll j) = true) : certF st p q ll = true := by
  unfold certF; rw [hv, Bool.true_and, List.all_eq_true]; intro j hj; exact h j (List.mem_range.1 hj)
theorem certF_not {st p q : Int} {ll : List (List Int)} {j : Nat} (hj : j < ll.length) (h : allOne (rowI ll j) = false) : certF st p q ll = false := by
  unfold certF; rw [Bool.and_eq_false_iff]; right; rw [List.all_eq_false]; exact ⟨j, List.mem_range.2 hj, by simp [h]⟩
theorem oneN_zero : oneN 0 = false := rfl
theorem oneN_pos {x : Nat} (h : x ≠ 0) : oneN x = decide (andN x (x - 1) = 0) := by simp [oneN, h]

set_option maxHeartbeats 1000000 in
theorem sCertain_c (st p q : Int) (a : Option Addr) (cap : Nat) (ll : List (List Int)) (w : World) (hr : RowsAt w a ll) (hlen : ll.length ≤ 4194304) (hm : ∀ i, i < ll.length → (rowI ll i).length ≤ 4194304) :
    Calls Tryd.prog 7 #[modelV st p q a ll.length cap] w fun e w' => e = .returned (.bool (certF st p q ll)) ∧ Ext w w' := by
  have HR := Lib.hid hr
  have HM := Lib.hid hm
  clear hr hm
  cases hv : mvB st p q ll
  · have hF : certF st p q ll = false := by simp [certF, hv]
    rw [hF]
    clear hF
    go_enter Tryd.func7, Tryd.ntmps7
    go_wp2
    go_loopw [3] (fun i wr => Hid (i = .int .i64 0 ∧ BoxM wr w.heap.size st p q (.slice a ll.length cap) ∧ Ext w wr)) (fun _ _ => 0)
    case atStart => exact Lib.hid ⟨rfl, by simp [BoxM, go_sem], by (repeat (first | exact Ext.refl _ | assumption | refine Ext.alloc ?_ _ | refine Ext.drewN ?_ _ | refine Ext.drew ?_))⟩
    case round =>
      obtain ⟨rfl, hb, hx⟩ := hrel.out
      clear hrel
      have kb := hb.out
      have zb := hb.lt
      by_cases hlt : 0 < ll.length
      · go_wp2_with fail
        refine (sModelValid_c st p q a cap ll _ (HR.out.ext (by (repeat (first | exact Ext.refl _ | assumption | refine Ext.alloc ?_ _ | refine Ext.drewN ?_ _ | refine Ext.drew ?_)))) hlen HM.out).mono ?_
        rw [hv]
        rintro e w1 ⟨rfl, y⟩
        clear kb zb
        have hb1 := hb.ext y
        replace hx := hx.trans y
        have kb := hb1.out
        have zb := hb1.lt
        go_wp2_with fail
        refine (sModelValid_c st p q a cap ll _ (HR.out.ext (by (repeat (first | exact Ext.refl _ | assumption | refine Ext.alloc ?_ _ | refine Ext.drewN ?_ _ | refine Ext.drew ?_)))) hlen HM.out).mono ?_
        rw [hv]
        rintro e w2 ⟨rfl, y2⟩
        replace hx := hx.trans y2
        go_wp2
        go_ret
        exact ⟨rfl, hx⟩
      · go_wp2_with fail
        refine (sModelValid_c st p q a cap ll _ (HR.out.ext (by (repeat (first | exact Ext.refl _ | assumption | refine Ext.alloc ?_ _ | refine Ext.drewN ?_ _ | refine Ext.drew ?_)))) hlen HM.out).mono ?_
        rw [hv]
        rintro e w2 ⟨rfl, y2⟩
        replace hx := hx.trans y2
        go_wp2
        go_ret
        exact ⟨rfl, hx⟩
  · obtain ⟨s, P, Q, rfl, rfl, rfl, h1, h5, hP, hQ, hPb, hQb, h3, hrv⟩ := mvB_bounds hv
    have HV := Lib.hid hv
    have HRV := Lib.hid hrv
    have H3 := Lib.hid h3
    clear hv hrv hP hQ h3
    go_enter Tryd.func7, Tryd.ntmps7
    go_wp2
    go_loopw [3] (fun i wr => Hid (∃ k : Nat, k ≤ ll.length ∧ i = .int .i64 k ∧ (∀ j, j < k → allOne (rowI ll j) = true) ∧ BoxM wr w.heap.size s P Q (.slice a ll.length cap) ∧ Ext w wr)) (fun i _ => ll.length - (intOf i).toNat)
    case atStart => exact Lib.hid ⟨0, Nat.zero_le _, rfl, fun j hj => absurd hj (Nat.not_lt_zero _), by simp [BoxM, go_sem], by (repeat (first | exact Ext.refl _ | assumption | refine Ext.alloc ?_ _ | refine Ext.drewN ?_ _ | refine Ext.drew ?_))⟩
    case round =>
      obtain ⟨k, hk, rfl, hno, hb, hx⟩ := hrel.out
      have HN := Lib.hid hno
      clear hrel hno
      have kb := hb.out
      have zb := hb.lt
      by_cases hlt : k < ll.length
      · go_wp2_with fail
        refine (sModelValid_c s P Q a cap ll _ (HR.out.ext (by (repeat (first | exact Ext.refl _ | assumption | refine Ext.alloc ?_ _ | refine Ext.drewN ?_ _ | refine Ext.drew ?_)))) hlen HM.out).mono ?_
        rw [HV.out]
        rintro e w1 ⟨rfl, y⟩
        clear kb zb
        replace hb := hb.ext y
        replace hx := hx.trans y
        clear y
        have hvk := HRV.out k (by rw [← H3.out]; exact hlt)
        have hrl := rvB_len hvk
        have HS := Lib.hid (rvB_sets hvk).1
        clear hvk
        go_wp2
        go_loopw [4] (fun i wr => Hid (∃ j : Nat, j ≤ s ∧ i = .int .i64 j ∧ (∀ i, i < j → oneN (natAt (rowI ll k) i) = true) ∧ BoxM wr w.heap.size s P Q (.slice a ll.length cap) ∧ Ext w wr)) (fun i _ => s - (intOf i).toNat)
        case atStart => exact Lib.hid ⟨0, Nat.zero_le _, rfl, fun j hj => absurd hj (Nat.not_lt_zero _), hb, hx⟩
        case round =>
          obtain ⟨j, hj, rfl, hone, hb, hx⟩ := hrel.out
          have HO := Lib.hid hone
          clear hrel hone
          have kb := hb.out
          have zb := hb.lt
          by_cases hjt : j < s
          · obtain ⟨b1, o1, p1, q1⟩ := HR.out.ext hx
            obtain ⟨rfl, hz1⟩ := p1 (by omega)
            obtain ⟨ai, ci, hc, hi⟩ := q1 k (by omega)
            obtain ⟨b2, o2, p2, q2⟩ := hi
            obtain ⟨rfl, hz2⟩ := p2 (by omega)
            have hjl : j < (rowI ll k).length := by omega
            have hc2 := q2 j hjl
            rw [HS.out.eq j hjl] at hc2
            have hX4 := HS.out.lt j hjl
            clear p1 q1 p2 q2
            have HX : Hid (∀ x, natAt (rowI ll k) j = x → oneN x = true → oneN (natAt (rowI ll k) j) = true) := fun x hx h => by rw [hx]; exact h
            have HY : Hid (oneN (natAt (rowI ll k) j) = false → certF s P Q ll = false) := fun h => certF_not (by omega) (allOne_not hjl h)
            have HX2 := HX.out
            generalize hXe : natAt (rowI ll k) j = X at hc2 hX4 HY
            replace HX := Lib.hid (HX2 X hXe)
            clear HX2 hXe
            by_cases hX0 : X = 0
            · subst hX0
              have HF := Lib.hid (HY.out oneN_zero)
              clear HX HY
              go_wp2
              go_quiet (fail)
              go_wp2
              go_ret
              exact ⟨by rw [HF.out]; rfl, by (repeat (first | exact Ext.refl _ | assumption | refine Ext.alloc ?_ _ | refine Ext.drewN ?_ _ | refine Ext.drew ?_))⟩
            · have hXn : ((X : Int) == 0) = false := by simp [hX0]
              have HP := Lib.hid (oneN_pos hX0)
              have hX1 : (X : Int) - 1 = ((X - 1 : Nat) : Int) := by omega
              have hX2 : X - 1 < 4294967296 := by omega
              generalize X - 1 = Y at HP hX1 hX2
              by_cases ha : andN X Y = 0
              · have HT : Hid (oneN X = true) := by rw [HP.out]; simpa [Hid] using ha
                have hab : (((andN X Y : Nat) : Int) != 0) = false := by simp [ha]
                have HT2 := Lib.hid (HX.out HT.out)
                clear HX HY HP ha
                go_wp2
                go_quiet ((go_at_call 24; exact quiet_same (l1Both_c _ _ _ (by omega) (by omega))))
                go_wp2
                go_roundw
                case rel => exact Lib.hid ⟨j + 1, by omega, by go_num, upto_succ HO.out HT2.out, hb.ext (by (repeat (first | exact Ext.refl _ | assumption | refine Ext.alloc ?_ _ | refine Ext.drewN ?_ _ | refine Ext.drew ?_))), by (repeat (first | exact Ext.refl _ | assumption | refine Ext.alloc ?_ _ | refine Ext.drewN ?_ _ | refine Ext.drew ?_))⟩
                case measure => simp [intOf]; omega
              · have HT : Hid (oneN X = false) := by rw [HP.out]; simpa [Hid] using ha
                have hab : (((andN X Y : Nat) : Int) != 0) = true := by simp [ha]
                have HF := Lib.hid (HY.out HT.out)
                clear HX HY HP ha
                go_wp2
                go_quiet ((go_at_call 24; exact quiet_same (l1Both_c _ _ _ (by omega) (by omega))))
                go_wp2
                go_ret
                exact ⟨by rw [HF.out]; rfl, by (repeat (first | exact Ext.refl _ | assumption | refine Ext.alloc ?_ _ | refine Ext.drewN ?_ _ | refine Ext.drew ?_))⟩
          · obtain rfl : j = s := by omega
            have HA := Lib.hid (allOne_of (r := rowI ll k) (fun i hi => HO.out i (by omega)))
            go_wp2
            go_roundw
            case rel => exact Lib.hid ⟨k + 1, by omega, by go_num, upto_succ HN.out HA.out, hb, by (repeat (first | exact Ext.refl _ | assumption | refine Ext.alloc ?_ _ | refine Ext.drewN ?_ _ | refine Ext.drew ?_))⟩
            case measure => simp [intOf]; omega
      · obtain rfl : k = ll.length := by omega
        go_wp2_with fail
        refine (sModelValid_c s P Q a cap ll _ (HR.out.ext (by (repeat (first | exact Ext.refl _ | assumption | refine Ext.alloc ?_ _ | refine Ext.drewN ?_ _ | refine Ext.drew ?_)))) hlen HM.out).mono ?_
        rw [HV.out]
        rintro e w2 ⟨rfl, y2⟩
        replace hx := hx.trans y2
        have HF := Lib.hid (certF_of HV.out (fun j hj => HN.out j (by omega)))
        go_wp2
        go_ret
        exact ⟨by rw [HF.out]; rfl, hx⟩
set_option maxHeartbeats 1000000 in
theorem iCertain_c (st p q : Int) (a : Option Addr) (cap : Nat) (ll : List (List Int)) (w : World) (hr : RowsAt w a ll) (hlen : ll.length ≤ 4194304) (hm : ∀ i, i < ll.length → (rowI ll i).length ≤ 4194304) :
    Calls Tryd.prog 6 #[modelV st p q a ll.length cap] w fun e w' => e = .returned (.bool (certF st p q ll)) ∧ Ext w w' := by
  have HR := Lib.hid hr
  have HM := Lib.hid hm
  clear hr hm
  cases hv : mvB st p q ll
  · have hF : certF st p q ll = false := by simp [certF, hv]
    rw [hF]
    clear hF
    go_enter Tryd.func6, Tryd.ntmps6
    go_wp2_with fail
    refine (iModelValid_c st p q a cap ll _ (HR.out.ext (by (repeat (first | exact Ext.refl _ | assumption | refine Ext.alloc ?_ _ | refine Ext.drewN ?_ _ | refine Ext.drew ?_)))) hlen HM.out).mono ?_
    rw [hv]
    rintro e w1 ⟨rfl, y⟩
    have hx : Ext w w1 := Ext.trans (by (repeat (first | exact Ext.refl _ | assumption | refine Ext.alloc ?_ _ | refine Ext.drewN ?_ _ | refine Ext.drew ?_))) y
    go_wp2
    go_ret
    exact ⟨rfl, hx⟩
  · obtain ⟨s, P, Q, rfl, rfl, rfl, h1, h5, hP, hQ, hPb, hQb, h3, hrv⟩ := mvB_bounds hv
    have HV := Lib.hid hv
    have HRV := Lib.hid hrv
    have H3 := Lib.hid h3
    clear hv hrv hP hQ h3
    go_enter Tryd.func6, Tryd.ntmps6
    go_wp2_with fail
    refine (iModelValid_c s P Q a cap ll _ (HR.out.ext (by (repeat (first | exact Ext.refl _ | assumption | refine Ext.alloc ?_ _ | refine Ext.drewN ?_ _ | refine Ext.drew ?_)))) hlen HM.out).mono ?_
    rw [HV.out]
    rintro e w1 ⟨rfl, y⟩
    have hx : Ext w w1 := Ext.trans (by (repeat (first | exact Ext.refl _ | assumption | refine Ext.alloc ?_ _ | refine Ext.drewN ?_ _ | refine Ext.drew ?_))) y
    have hb : BoxM w1 w.heap.size s P Q (.slice a ll.length cap) := BoxM.ext (by simp [BoxM, go_sem]) y
    clear y
    have kb := hb.out
    have zb := hb.lt
    go_wp2
    go_loop [13] (fun i => Hid (∃ k : Nat, k ≤ ll.length ∧ i = .int .i64 k ∧ (∀ j, j < k → allOne (rowI ll j) = true))) (fun i => ll.length - (intOf i).toNat)
    case atStart => exact Lib.hid ⟨0, Nat.zero_le _, rfl, fun j hj => absurd hj (Nat.not_lt_zero _)⟩
    case round =>
      obtain ⟨k, hk, rfl, hno⟩ := hrel.out
      have HN := Lib.hid hno
      clear hrel hno
      by_cases hlt : k < ll.length
      · obtain ⟨b1, o1, p1, q1⟩ := HR.out.ext hx
        obtain ⟨rfl, hz1⟩ := p1 (by omega)
        obtain ⟨ai, ci, hc, hi⟩ := q1 k (by omega)
        have hvk := HRV.out k (by rw [← H3.out]; exact hlt)
        have hrl := rvB_len hvk
        have HS := Lib.hid (rvB_sets hvk).1
        clear hvk
        obtain ⟨b2, o2, p2, q2⟩ := hi
        obtain ⟨rfl, hz2⟩ := p2 (by omega)
        have Q2 := Lib.hid q2
        clear p1 q1 p2 q2
        go_wp2
        go_loop [19] (fun i => Hid (∃ j : Nat, j ≤ (rowI ll k).length ∧ i = .int .i64 j ∧ (∀ i, i < j → oneN (natAt (rowI ll k) i) = true))) (fun i => (rowI ll k).length - (intOf i).toNat)
        case atStart => exact Lib.hid ⟨0, Nat.zero_le _, rfl, fun j hj => absurd hj (Nat.not_lt_zero _)⟩
        case round =>
          obtain ⟨j, hj, rfl, hone⟩ := hrel.out
          have HO := Lib.hid hone
          clear hrel hone
          by_cases hjl : j < (rowI ll k).length
          · have hc2 := Q2.out j hjl
            rw [HS.out.eq j hjl] at hc2
            have hX4 := HS.out.lt j hjl
            have HX : Hid (∀ x, natAt (rowI ll k) j = x → oneN x = true → oneN (natAt (rowI ll k) j) = true) := fun x hx h => by rw [hx]; exact h
            have HY : Hid (oneN (natAt (rowI ll k) j) = false → certF s P Q ll = false) := fun h => certF_not (by omega) (allOne_not hjl h)
            have HX2 := HX.out
            generalize hXe : natAt (rowI ll k) j = X at hc2 hX4 HY
            replace HX := Lib.hid (HX2 X hXe)
            clear HX2 hXe
            by_cases hX0 : X = 0
            · subst hX0
              have HF := Lib.hid (HY.out oneN_zero)
              clear HX HY
              go_wp2
              go_ret
              exact ⟨by rw [HF.out]; rfl, by (repeat (first | exact Ext.refl _ | assumption | refine Ext.alloc ?_ _ | refine Ext.drewN ?_ _ | refine Ext.drew ?_))⟩
            · have hXn : ((X : Int) == 0) = false := by simp [hX0]
              have HP := Lib.hid (oneN_pos hX0)
              have hX1 : (X : Int) - 1 = ((X - 1 : Nat) : Int) := by omega
              have hX2 : X - 1 < 4294967296 := by omega
              generalize X - 1 = Y at HP hX1 hX2
              have e0 := i64_andN X Y hX4 hX2
              by_cases ha : andN X Y = 0
              · have HT : Hid (oneN X = true) := by rw [HP.out]; simpa [Hid] using ha
                have hab : (((andN X Y : Nat) : Int) != 0) = false := by simp [ha]
                have HT2 := Lib.hid (HX.out HT.out)
                clear HX HY HP ha
                go_wp2
                go_round
                case rel => exact Lib.hid ⟨j + 1, by omega, by go_num, upto_succ HO.out HT2.out⟩
                case measure => simp [intOf]; omega
              · have HT : Hid (oneN X = false) := by rw [HP.out]; simpa [Hid] using ha
                have hab : (((andN X Y : Nat) : Int) != 0) = true := by simp [ha]
                have HF := Lib.hid (HY.out HT.out)
                clear HX HY HP ha
                go_wp2
                go_ret
                exact ⟨by rw [HF.out]; rfl, by (repeat (first | exact Ext.refl _ | assumption | refine Ext.alloc ?_ _ | refine Ext.drewN ?_ _ | refine Ext.drew ?_))⟩
          · obtain rfl : j = (rowI ll k).length := by omega
            have HA := Lib.hid (allOne_of (r := rowI ll k) (fun i hi => HO.out i (by omega)))
            go_wp2
            go_round
            case rel => exact Lib.hid ⟨k + 1, by omega, by go_num, upto_succ HN.out HA.out⟩
            case measure => simp [intOf]; omega
      · obtain rfl : k = ll.length := by omega
        have HF := Lib.hid (certF_of HV.out (fun j hj => HN.out j (by omega)))
        go_wp2
        go_ret
        exact ⟨by rw [HF.out]; rfl, hx⟩
end Go.Proofs.YtlaamecfknkmlaaDoor
