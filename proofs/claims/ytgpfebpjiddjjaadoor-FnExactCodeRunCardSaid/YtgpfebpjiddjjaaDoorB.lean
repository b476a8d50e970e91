/- Contracts: validity of rows and models. -/
import Derived.Test.YtgpfebpjiddjjaaDoorA
namespace Go.Proofs.YtgpfebpjiddjjaaDoor
set_option linter.unusedVariables false
open Go.RowKit Go.Kt

/-- Rows are valid. -/
def rvB (n : Int) (l : List Int) : Bool := decide (1 ≤ n ∧ n ≤ 5 ∧ (l.length : Int) = n ∧ ∀ x ∈ l, 0 ≤ x ∧ x < 2 ^ n.toNat)

/-- Not a set of so many states. -/
def notSet (s : Nat) (x : Int) : Bool := !decide (0 ≤ x ∧ x < 2 ^ s)

theorem rvClosure_c (b : Nat) (s : Nat) (x : Int) (w : World) (hs : s ≤ 5) (hb : w.cell? ⟨b, 0, none⟩ = some (.int .i64 s)) :
    Calls Tryd.prog 86 #[.int .i64 x, .pointer (some ⟨b, 0, none⟩)] w fun e w' => e = .returned (.bool (notSet s x)) ∧ w = w' := by
  go_enter Tryd.func86, Tryd.ntmps86
  go_wp2_with (go_at_call 67; refine (isSet_c _ _ _ hs).mono ?_; rintro e w' ⟨rfl, rfl⟩)
  go_ret
  exact ⟨by simp [notSet, setB], rfl⟩

/-- What slices.IndexFunc answers. -/
def findI (p : Int → Bool) (l : List Int) : Int := if l.any p then ((l.findIdx p : Nat) : Int) else -1

theorem findI_none (p : Int → Bool) (l : List Int) (h : ∀ j, j < l.length → p (nth l j) = false) : findI p l = -1 := by
  unfold findI
  rw [if_neg]
  rw [List.any_eq_true]
  rintro ⟨x, hx, hp⟩
  obtain ⟨j, hj, rfl⟩ := List.getElem_of_mem hx
  have := h j hj
  rw [nth_getElem l j hj] at this
  rw [this] at hp; cases hp
theorem findI_at (p : Int → Bool) (l : List Int) (k : Nat) (hk : k < l.length) (h : ∀ j, j < k → p (nth l j) = false) (hp : p (nth l k) = true) : findI p l = k := by
  unfold findI
  rw [nth_getElem l k hk] at hp
  rw [if_pos (List.any_eq_true.2 ⟨_, List.getElem_mem hk, hp⟩)]
  congr 1
  rw [List.findIdx_eq hk]
  refine ⟨hp, fun j hj => ?_⟩
  have := h j hj
  rwa [nth_getElem l j (by omega)] at this

theorem indexFunc_c (a : Option Addr) (cap : Nat) (l : List Int) (cv : Value) (p : Int → Bool) (w : World) (hl : IntsAt w a l) (hlen : l.length ≤ 4611686018427387904)
    (hf : ∀ x w1, x ∈ l → Ext w w1 → Calls Tryd.prog 86 #[.int .i64 x, cv] w1 fun e w' => e = .returned (.bool (p x)) ∧ Ext w1 w') :
    Calls Tryd.prog 92 #[.slice a l.length cap, .func (.func 86) #[] #[cv]] w fun e w' => e = .returned (.int .i64 (findI p l)) ∧ Ext w w' := by
  obtain ⟨b, off, h1, h2⟩ := hl
  have H1 := Lib.hid h1
  have H2 := Lib.hid h2
  have HF := Lib.hid hf
  clear h1 h2 hf
  go_enter Tryd.func92, Tryd.ntmps92
  go_wp2
  go_loopw [8] (fun i wr => Hid (∃ k : Nat, k ≤ l.length ∧ i = .int .i64 k ∧ (∀ j, j < k → p (nth l j) = false) ∧ Ext w wr)) (fun i _ => l.length - (intOf i).toNat)
  case atStart => exact Lib.hid ⟨0, Nat.zero_le _, rfl, fun j hj => absurd hj (Nat.not_lt_zero _), Ext.refl _⟩
  case round =>
    obtain ⟨k, hk, rfl, hno, hx⟩ := hrel.out
    clear hrel
    have hno' := Lib.hid hno
    clear hno
    by_cases hlt : k < l.length
    · obtain ⟨rfl, hb⟩ := H1.out (by omega)
      have hc := hx.cell' (H2.out k hlt) hb
      have hmem := nth_mem l k hlt
      cases hp : p (nth l k)
      all_goals
        have hp' := Lib.hid hp
        have hcall := Lib.hid (HF.out (nth l k) wr hmem hx)
        rw [hp] at hcall
        clear hp hmem
        go_wp2_with fail
        refine (hcall.out).mono ?_
        rintro e w1 ⟨rfl, hx1⟩
        go_wp2
      · go_roundw
        case rel => exact Lib.hid ⟨k + 1, by omega, by go_num, upto_succ hno'.out hp'.out, hx.trans hx1⟩
        case measure => simp [intOf]; omega
      · go_ret
        exact ⟨by rw [findI_at p l k hlt hno'.out hp'.out]; rfl, hx.trans hx1⟩
    · obtain rfl : k = l.length := by omega
      go_wp2
      go_ret
      exact ⟨by rw [findI_none p l hno'.out]; rfl, hx⟩

theorem findI_nonneg (p : Int → Bool) (l : List Int) : decide (0 ≤ findI p l) = l.any p := by
  unfold findI
  cases l.any p <;> simp

theorem containsFunc_c (a : Option Addr) (cap : Nat) (l : List Int) (cv : Value) (p : Int → Bool) (w : World) (hl : IntsAt w a l) (hlen : l.length ≤ 4611686018427387904)
    (hf : ∀ x w1, x ∈ l → Ext w w1 → Calls Tryd.prog 86 #[.int .i64 x, cv] w1 fun e w' => e = .returned (.bool (p x)) ∧ Ext w1 w') :
    Calls Tryd.prog 85 #[.slice a l.length cap, .func (.func 86) #[] #[cv]] w fun e w' => e = .returned (.bool (l.any p)) ∧ Ext w w' := by
  have HC := Lib.hid (indexFunc_c a cap l cv p w hl hlen hf)
  clear hf hl
  go_enter Tryd.func85, Tryd.ntmps85
  go_wp2_with fail
  refine HC.out.mono ?_
  rintro e w1 ⟨rfl, hx⟩
  go_wp2
  go_ret
  exact ⟨by rw [← findI_nonneg]; rfl, hx⟩

theorem rv_any (s : Nat) (l : List Int) (h1 : 1 ≤ s) (h2 : s ≤ 5) (hl : l.length = s) : (!l.any (notSet s)) = rvB s l := by
  rw [Bool.eq_iff_iff]
  simp only [rvB, notSet, Bool.not_eq_true', List.any_eq_false, decide_eq_true_eq, Int.toNat_natCast]
  constructor
  · intro h; exact ⟨by omega, by omega, by omega, fun x hx => by have := h x hx; simpa using this⟩
  · rintro ⟨_, _, _, h⟩ x hx; have := h x hx; simpa using this

theorem iRowsValid_c (n : Int) (a : Option Addr) (cap : Nat) (l : List Int) (w : World) (hl : IntsAt w a l) (hlen : l.length ≤ 4611686018427387904) :
    Calls Tryd.prog 70 #[.int .i64 n, .slice a l.length cap] w fun e w' => e = .returned (.bool (rvB n l)) ∧ Ext w w' := by
  by_cases h1 : 1 ≤ n ∧ n ≤ 5
  · obtain ⟨s, rfl⟩ := Int.eq_ofNat_of_zero_le (show 0 ≤ n by omega)
    by_cases h2 : l.length = s
    · have hany := Lib.hid (rv_any s l (by omega) (by omega) h2)
      have H2 := Lib.hid h2
      have ht : (((l.length : Nat) : Int) != (s : Int)) = false := by simp [h2]
      have hd : decide (1 ≤ (s : Int) ∧ (s : Int) ≤ 5) = true := by simp; omega
      have hlw := hl.ext (Ext.alloc (Ext.refl w) (.cells #[.int .i64 s] 3))
      clear h2 hl
      go_enter Tryd.func70, Tryd.ntmps70
      go_wp2_with fail
      refine (hasStates_c _ _).mono ?_
      rintro e w1 ⟨rfl, rfl⟩
      go_wp2_with fail
      refine (containsFunc_c a cap l _ (notSet s) _ hlw hlen ?_).mono ?_
      · intro x w1 _ hx
        refine (rvClosure_c w.heap.size s x w1 (by omega) ?_).mono ?_
        · exact hx.cell' (cell_new0 _ _ _) (by simp)
        · rintro e w' ⟨rfl, rfl⟩; exact ⟨rfl, Ext.refl _⟩
      · rintro e w1 ⟨rfl, hx⟩
        go_wp2
        go_ret
        exact ⟨by rw [← hany.out]; rfl, (Ext.alloc (Ext.refl w) _).trans hx⟩
    · have hr : rvB s l = false := by simp [rvB]; omega
      have hr' := Lib.hid hr
      have ht : (((l.length : Nat) : Int) != (s : Int)) = true := by simp; omega
      have hd : decide (1 ≤ (s : Int) ∧ (s : Int) ≤ 5) = true := by simp; omega
      clear h2 hl hr
      go_enter Tryd.func70, Tryd.ntmps70
      go_wp2_with fail
      refine (hasStates_c _ _).mono ?_
      rintro e w1 ⟨rfl, rfl⟩
      go_wp2
      go_ret
      exact ⟨by rw [hr'.out]; rfl, Ext.alloc (Ext.refl w) _⟩
  · have hr : rvB n l = false := by simp [rvB]; omega
    have hr' := Lib.hid hr
    have hd : decide (1 ≤ n ∧ n ≤ 5) = false := by simpa using h1
    clear h1 hl hr
    go_enter Tryd.func70, Tryd.ntmps70
    go_wp2_with fail
    refine (hasStates_c _ _).mono ?_
    rintro e w1 ⟨rfl, rfl⟩
    go_wp2
    go_ret
    exact ⟨by rw [hr'.out]; rfl, Ext.alloc (Ext.refl w) _⟩


theorem rvB_of (n : Int) (l : List Int) (h : ∀ j, j < l.length → inB (nth l j) 0 (2 ^ n.toNat - 1) = true) : rvB n l = (inB n 1 5 && ((l.length : Int) == n)) := by
  rw [Bool.eq_iff_iff]
  simp only [rvB, inB, decide_eq_true_eq, Bool.and_eq_true, beq_iff_eq]
  constructor
  · rintro ⟨a, b, c, _⟩; exact ⟨⟨a, b⟩, c⟩
  · rintro ⟨⟨a, b⟩, c⟩
    refine ⟨a, b, c, fun x hx => ?_⟩
    obtain ⟨j, hj, rfl⟩ := List.getElem_of_mem hx
    have := h j hj
    rw [nth_getElem l j hj] at this
    simp only [inB, decide_eq_true_eq] at this
    omega
theorem rvB_not (n : Int) (l : List Int) (k : Nat) (hk : k < l.length) (h : inB (nth l k) 0 (2 ^ n.toNat - 1) = false) : rvB n l = false := by
  simp only [rvB, decide_eq_false_iff_not]
  rintro ⟨a, b, c, d⟩
  have := d _ (nth_mem l k hk)
  simp only [inB, decide_eq_false_iff_not] at h
  omega
theorem rvB_out (n : Int) (l : List Int) (h : ¬ (1 ≤ n ∧ n ≤ 5)) : rvB n l = false := by
  simp [rvB]; omega

theorem sRowsValid_c (n : Int) (a : Option Addr) (cap : Nat) (l : List Int) (w : World) (hl : IntsAt w a l) (hlen : l.length ≤ 4611686018427387904) :
    Calls Tryd.prog 71 #[.int .i64 n, .slice a l.length cap] w fun e w' => e = .returned (.bool (rvB n l)) ∧ ∃ m, w' = w.drewN m := by
  obtain ⟨b, off, h1, h2⟩ := hl
  have H1 := Lib.hid h1
  have H2 := Lib.hid h2
  clear h1 h2
  go_enter Tryd.func71, Tryd.ntmps71
  go_wp2
  go_loopw [5] (fun i wr => Hid (∃ k : Nat, k ≤ l.length ∧ i = .int .i64 k ∧ (∀ j, j < k → 1 ≤ n → n ≤ 5 → inB (nth l j) 0 (2 ^ n.toNat - 1) = true) ∧ ∃ m, wr = w.drewN m)) (fun i _ => l.length - (intOf i).toNat)
  case atStart => exact Lib.hid ⟨0, Nat.zero_le _, rfl, fun j hj => absurd hj (Nat.not_lt_zero _), 0, rfl⟩
  case round =>
    obtain ⟨k, hk, rfl, hno, m, rfl⟩ := hrel.out
    have HN := Lib.hid hno
    clear hrel hno
    by_cases hv : 1 ≤ n ∧ n ≤ 5
    · obtain ⟨s, rfl⟩ := Int.eq_ofNat_of_zero_le (show 0 ≤ n by omega)
      have hp := pow_le_32 s (by omega)
      have hq := pow_pos' s
      obtain ⟨hv1, hv2⟩ := hv
      by_cases hlt : k < l.length
      · obtain ⟨rfl, hb⟩ := H1.out (by omega)
        have hc := H2.out k hlt
        clear H1 H2
        cases hin : inB (nth l k) 0 (2 ^ s - 1)
        all_goals
          go_wp2
          go_quiet ((go_at_call 29; exact quiet_same_add (l1In_c _ _ _ _)))
          go_wp2
        · go_ret
          exact ⟨by rw [rvB_not s l k hlt hin]; rfl, drawn2 _ _ _⟩
        · go_roundw
          case rel => exact Lib.hid ⟨k + 1, by omega, by go_num, upto_succ HN.out (fun _ _ => hin), _, rfl⟩
          case measure => simp [intOf]; omega
      · obtain rfl : k = l.length := by omega
        have hr := Lib.hid (rvB_of s l (fun j hj => HN.out j hj hv1 hv2))
        have hin : inB s 1 5 = true := by simp [inB]; omega
        go_wp2_with fail
        refine (l1In_c _ _ _ _).mono ?_
        rintro e w1 ⟨rfl, rfl⟩
        go_wp2
        go_ret
        exact ⟨by rw [hr.out, hin]; rfl, _, rfl⟩
    · have hr := Lib.hid (rvB_out n l hv)
      have hin : inB n 1 5 = false := by simp [inB]; omega
      by_cases hlt : k < l.length
      · obtain ⟨rfl, hb⟩ := H1.out (by omega)
        have hc := H2.out k hlt
        clear H1 H2
        have hv3 : n < 0 ∨ n = 0 ∨ 6 ≤ n := by omega
        clear hv
        rcases hv3 with hv3 | rfl | hv3
        · cases hi : inB (nth l k) 0 0
          all_goals
            go_wp2
            go_quiet ((go_at_call 29; exact quiet_same_add (l1In_c _ _ _ _)))
            go_wp2
          · go_ret
            exact ⟨by rw [hr.out]; rfl, by first | exact ⟨_, rfl⟩ | exact drawn2 _ _ _⟩
          · go_roundw
            case rel => exact Lib.hid ⟨k + 1, by omega, by go_num, upto_succ HN.out (fun _ _ => by omega), _, rfl⟩
            case measure => simp [intOf]; omega
        · cases hi : inB (nth l k) 0 0
          all_goals
            go_wp2
            go_quiet ((go_at_call 29; exact quiet_same_add (l1In_c _ _ _ _)))
            go_wp2
          · go_ret
            exact ⟨by rw [hr.out]; rfl, by first | exact ⟨_, rfl⟩ | exact drawn2 _ _ _⟩
          · go_roundw
            case rel => exact Lib.hid ⟨k + 1, by omega, by go_num, upto_succ HN.out (fun _ _ => by omega), _, rfl⟩
            case measure => simp [intOf]; omega
        · cases hi : inB (nth l k) 0 31
          all_goals
            go_wp2
            go_quiet ((go_at_call 29; exact quiet_same_add (l1In_c _ _ _ _)))
            go_wp2
          · go_ret
            exact ⟨by rw [hr.out]; rfl, by first | exact ⟨_, rfl⟩ | exact drawn2 _ _ _⟩
          · go_roundw
            case rel => exact Lib.hid ⟨k + 1, by omega, by go_num, upto_succ HN.out (fun _ _ => by omega), _, rfl⟩
            case measure => simp [intOf]; omega
      · obtain rfl : k = l.length := by omega
        go_wp2_with fail
        refine (l1In_c _ _ _ _).mono ?_
        rintro e w1 ⟨rfl, rfl⟩
        go_wp2
        go_ret
        exact ⟨by rw [hr.out]; rfl, _, rfl⟩
end Go.Proofs.YtgpfebpjiddjjaaDoor
