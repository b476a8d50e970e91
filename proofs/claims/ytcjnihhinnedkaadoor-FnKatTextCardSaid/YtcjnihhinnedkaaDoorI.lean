/- Contracts: the reference's ModelValid; atoms of states and the states of tests. -/
import Derived.Test.YtcjnihhinnedkaaDoorG
import Derived.Test.YtcjnihhinnedkaaDoorSets2
namespace Go.Proofs.YtcjnihhinnedkaaDoor
set_option linter.unusedVariables false
open Go.RowKit Go.Kt

theorem mvB_not (st p q : Int) (ll : List (List Int)) (k : Nat) (hk : k < ll.length) (h : rvB st (rowI ll k) = false) : mvB st p q ll = false := by
  simp only [mvB, decide_eq_false_iff_not]
  rintro ⟨_, _, _, _, _, d⟩
  rw [d _ (rowI_mem ll k hk)] at h
  cases h
theorem mvB_all (st p q : Int) (ll : List (List Int)) (h : ∀ j, j < ll.length → rvB st (rowI ll j) = true) :
    mvB st p q ll = (inB st 1 5 && (inB p 0 (2 ^ st.toNat - 1) && (inB q 0 (2 ^ st.toNat - 1) && ((ll.length : Int) == 3)))) := by
  rw [Bool.eq_iff_iff]
  simp only [mvB, inB, decide_eq_true_eq, Bool.and_eq_true, beq_iff_eq]
  constructor
  · rintro ⟨a, b, c, d, e, _⟩; exact ⟨⟨a, b⟩, ⟨c.1, by omega⟩, ⟨d.1, by omega⟩, by omega⟩
  · rintro ⟨⟨a, b⟩, c, d, e⟩
    refine ⟨a, b, ⟨c.1, by omega⟩, ⟨d.1, by omega⟩, by omega, fun r hr => ?_⟩
    obtain ⟨j, hj, rfl⟩ := List.getElem_of_mem hr
    have := h j hj
    rwa [rowI_getElem ll j hj] at this

theorem mvB_bounds {st p q : Int} {ll : List (List Int)} (h : mvB st p q ll = true) :
    ∃ (s P Q : Nat), st = s ∧ p = P ∧ q = Q ∧ 1 ≤ s ∧ s ≤ 5 ∧ P < 2 ^ s ∧ Q < 2 ^ s ∧ P < 4294967296 ∧ Q < 4294967296 ∧ ll.length = 3 ∧ ∀ i, i < 3 → rvB s (rowI ll i) = true := by
  simp only [mvB, decide_eq_true_eq] at h
  obtain ⟨h1, h2, ⟨h3, h4⟩, ⟨h5, h6⟩, h7, h8⟩ := h
  obtain ⟨s, rfl⟩ := Int.eq_ofNat_of_zero_le (show 0 ≤ st by omega)
  obtain ⟨P, rfl⟩ := Int.eq_ofNat_of_zero_le h3
  obtain ⟨Q, rfl⟩ := Int.eq_ofNat_of_zero_le h5
  rw [Int.toNat_natCast] at h4 h6
  have h4' : P < 2 ^ s := by exact_mod_cast h4
  have h6' : Q < 2 ^ s := by exact_mod_cast h6
  have hl : (2 : Nat) ^ s ≤ 2 ^ 5 := Nat.pow_le_pow_right (by decide) (by omega)
  exact ⟨s, P, Q, rfl, rfl, rfl, by omega, by omega, h4', h6', by omega, by omega, h7, fun i hi => h8 _ (rowI_mem ll i (by omega))⟩

/-- AtomOf, TestStates. -/
def atomF (st p q : Int) (ll : List (List Int)) (s : Int) : Int := if mvB st p q ll && inB s 0 (st - 1) then ((atomI p q s.toNat : Nat) : Int) else -1
def testF (st p q : Int) (ll : List (List Int)) (t : Int) : Int := if mvB st p q ll && inB t 0 15 then ((tsTo p q t.toNat st.toNat : Nat) : Int) else -1



theorem iTestValid_c (t : Int) (w : World) :
    Calls Tryd.prog 41 #[.int .i64 t] w fun e w' => e = .returned (.bool (inB t 0 15)) ∧ w = w' := by
  by_cases h1 : 0 ≤ t
  all_goals
    go_enter Tryd.func41, Tryd.ntmps41
    go_wp2
    go_ret
    exact ⟨by simp [inB, h1]; try omega, rfl⟩
theorem sTestValid_c (t : Int) (w : World) :
    Calls Tryd.prog 44 #[.int .i64 t] w fun e w' => e = .returned (.bool (inB t 0 15)) ∧ w = w' := by
  go_enter Tryd.func44, Tryd.ntmps44
  go_wp2_with (go_at_call 31; refine (l1In_c _ _ _ _).mono ?_; rintro e w' ⟨rfl, rfl⟩)
  go_ret
  exact ⟨rfl, rfl⟩
/-- TestNot. -/
def notF (t : Int) : Int := if inB t 0 15 then 15 - t else -1
theorem andNot15 (t : Nat) (h : t ≤ 15) : bits .andNot .i64 15 (t : Int) = 15 - (t : Int) := by
  have : t = 0 ∨ t = 1 ∨ t = 2 ∨ t = 3 ∨ t = 4 ∨ t = 5 ∨ t = 6 ∨ t = 7 ∨ t = 8 ∨ t = 9 ∨ t = 10 ∨ t = 11 ∨ t = 12 ∨ t = 13 ∨ t = 14 ∨ t = 15 := by omega
  rcases this with rfl | rfl | rfl | rfl | rfl | rfl | rfl | rfl | rfl | rfl | rfl | rfl | rfl | rfl | rfl | rfl <;> rfl
theorem iTestNot_c (t : Int) (w : World) :
    Calls Tryd.prog 26 #[.int .i64 t] w fun e w' => e = .returned (.int .i64 (notF t)) ∧ w = w' := by
  cases h : inB t 0 15
  · have HF : Hid (notF t = -1) := by unfold Hid notF; rw [h]; rfl
    go_enter Tryd.func26, Tryd.ntmps26
    go_wp2_with (go_at_call 41; refine (iTestValid_c _ _).mono ?_; rintro e w' ⟨rfl, rfl⟩)
    go_ret
    exact ⟨by rw [HF.out]; rfl, rfl⟩
  · have hb : 0 ≤ t ∧ t ≤ 15 := by simpa [inB] using h
    obtain ⟨T, rfl⟩ := Int.eq_ofNat_of_zero_le hb.1
    have HF : Hid (notF T = 15 - (T : Int)) := by unfold Hid notF; rw [h]; rfl
    have ha := andNot15 T (by omega)
    go_enter Tryd.func26, Tryd.ntmps26
    go_wp2_with (go_at_call 41; refine (iTestValid_c _ _).mono ?_; rintro e w' ⟨rfl, rfl⟩)
    go_ret
    exact ⟨by rw [HF.out]; rfl, rfl⟩



end Go.Proofs.YtcjnihhinnedkaaDoor
