/- Merged texts: contracts and plain lemmas (A, B, C). -/
import Derived.Test.YtlaamecfknkmlaaGreatRows
import Derived.Test.YtlaamecfknkmlaaGreatGu1
import Derived.BigQuiet
import Derived.Deep.QuietTactic
import Derived.Deep.LoopGhost
/- Contracts of the small functions over numbers and sets. -/
namespace Go.Proofs.YtlaamecfknkmlaaGreat
set_option linter.unusedVariables false
open Go.RowKit Go.Kt

/-- Within bounds. -/
def inB (n a b : Int) : Bool := decide (a ≤ n ∧ n ≤ b)

theorem l1In_c (n a b : Int) (w : World) :
    Calls Tryz.prog 61 #[.int .i64 n, .int .i64 a, .int .i64 b] w fun e w' => e = .returned (.bool (inB n a b)) ∧ w = w' := by
  by_cases h1 : a ≤ n
  all_goals
    go_enter Tryz.func61, Tryz.ntmps61
    go_wp2
    go_ret
    exact ⟨by simp [inB, h1]; try omega, rfl⟩
theorem holds_c (t a : Nat) (w : World) (ht : t < 4294967296) (_ha : a < 60) :
    Calls Tryz.prog 74 #[.int .i64 t, .int .i64 a] w fun e w' => e = .returned (.bool (t.testBit a)) ∧ w = w' := by
  go_enter Tryz.func74, Tryz.ntmps74
  go_wp2
  go_ret
  exact ⟨by rw [← i64_bit_eq t a (by omega)]; rfl, rfl⟩
theorem l1Bit_c (t a : Nat) (w : World) (_ht : t < 4294967296) (_ha : a < 60) :
    Calls Tryz.prog 107 #[.int .i64 t, .int .i64 a] w fun e w' => e = .returned (.int .i64 ((t.testBit a).toNat : Nat)) ∧ w = w' := by
  go_enter Tryz.func107, Tryz.ntmps107
  go_wp2
  go_ret
  exact ⟨by rw [← tmod_bit t a]; rfl, rfl⟩
theorem hasStates_c (n : Int) (w : World) :
    Calls Tryz.prog 103 #[.int .i64 n] w fun e w' => e = .returned (.bool (decide (1 ≤ n ∧ n ≤ 5))) ∧ w = w' := by
  by_cases h1 : 1 ≤ n
  all_goals
    go_enter Tryz.func103, Tryz.ntmps103
    go_wp2
    go_ret
    exact ⟨by simp [h1]; try omega, rfl⟩
/-- A set of so many states. -/
def setB (s : Nat) (x : Int) : Bool := decide (0 ≤ x ∧ x < 2 ^ s)

theorem isSet_c (s : Nat) (x : Int) (w : World) (hs : s ≤ 5) :
    Calls Tryz.prog 80 #[.int .i64 s, .int .i64 x] w fun e w' => e = .returned (.bool (setB s x)) ∧ w = w' := by
  have hp := pow_le_32 s hs
  have hq := pow_pos' s
  by_cases h1 : 0 ≤ x
  all_goals
    go_enter Tryz.func80, Tryz.ntmps80
    go_wp2
    go_ret
    exact ⟨by simp [setB, h1]; try omega, rfl⟩
theorem l1Both_c (a b : Nat) (w : World) (ha : a < 4294967296) (hb : b < 4294967296) :
    Calls Tryz.prog 90 #[.int .i64 a, .int .i64 b] w fun e w' => e = .returned (.int .i64 (andN a b : Nat)) ∧ w = w' := by
  go_enter Tryz.func90, Tryz.ntmps90
  go_wp2
  go_loop [5, 6] (fun o i => ∃ k : Nat, k ≤ 32 ∧ i = .int .i64 k ∧ o = .int .i64 (andTo a b k)) (fun _ i => 40 - (intOf i).toNat)
  case atStart => exact ⟨0, by omega, rfl, by rw [andTo_zero]; rfl⟩
  case round =>
    obtain ⟨k, hk, rfl, rfl⟩ := hrel
    have hp := pow_le_big k 32 hk
    have hq := pow_pos' k
    have hle := andTo_le a b k
    have hs := Lib.hid (andTo_succ a b k)
    by_cases h : (2 : Int) ^ k ≤ a ∧ (2 : Int) ^ k ≤ b
    · obtain ⟨h1, h2⟩ := h
      have hk2 : k < 32 := by
        apply Decidable.byContradiction; intro hn
        obtain rfl : k = 32 := by omega
        omega
      cases hA : a.testBit k
      all_goals cases hB : b.testBit k
      all_goals
        go_wp2_with (go_at_call 107; refine (l1Bit_c _ _ _ (by omega) (by omega)).mono ?_; rintro e w' ⟨rfl, rfl⟩)
        go_round
        case rel => exact ⟨k + 1, by omega, by go_num, by rw [hs.out, hA, hB]; simp⟩
        case measure => simp [intOf]; omega
    · have he : andTo a b k = andN a b := andTo_end a b k (by
        rcases Nat.lt_or_ge a (2 ^ k) with h1 | h1
        · exact .inl h1
        · rcases Nat.lt_or_ge b (2 ^ k) with h2 | h2
          · exact .inr h2
          · exact absurd ⟨by exact_mod_cast h1, by exact_mod_cast h2⟩ h)
      have he' := Lib.hid he
      clear he
      by_cases h1 : (2 : Int) ^ k ≤ a
      all_goals
        have h3 : ¬ ((2 : Int) ^ k ≤ b) ∨ ¬ (2 : Int) ^ k ≤ a := by omega
        clear h
        go_wp2
        go_ret
        exact ⟨by rw [← he'.out]; rfl, rfl⟩
theorem l1Either_c (a b : Nat) (w : World) (ha : a < 4294967296) (hb : b < 4294967296) :
    Calls Tryz.prog 122 #[.int .i64 a, .int .i64 b] w fun e w' => e = .returned (.int .i64 (orN a b : Nat)) ∧ w = w' := by
  have hle := andN_le a b
  go_enter Tryz.func122, Tryz.ntmps122
  go_wp2_with fail
  refine (l1Both_c _ _ _ ha hb).mono ?_
  rintro e w1 ⟨rfl, rfl⟩
  have h3 := Lib.hid (orN_add a b)
  go_wp2
  go_ret
  exact ⟨by rw [h3.out]; rfl, rfl⟩
theorem l7Image_c (b : Option Addr) (cb : Nat) (lb : List Int) (s : Nat) (w : World) (hb : IntsAt w b lb) (hs : Sets lb) (hl : lb.length ≤ 32) (hset : s < 4294967296) :
    Calls Tryz.prog 84 #[.slice b lb.length cb, .int .i64 s] w fun e w' => e = .returned (.int .i64 (img lb s : Nat)) ∧ w = w' := by
  obtain ⟨b1, o1, p1, q1⟩ := hb
  have P1 := Lib.hid p1
  have Q1 := Lib.hid q1
  have S1 := Lib.hid hs
  clear p1 q1 hs
  go_enter Tryz.func84, Tryz.ntmps84
  go_wp2
  go_loop [5, 6] (fun o i => Hid (∃ k : Nat, k ≤ lb.length ∧ i = .int .i64 k ∧ o = .int .i64 (imgTo lb s k : Nat))) (fun _ i => lb.length - (intOf i).toNat)
  case atStart => exact Lib.hid ⟨0, Nat.zero_le _, rfl, rfl⟩
  case round =>
    obtain ⟨k, hk, rfl, rfl⟩ := hrel.out
    clear hrel
    have hlo := imgTo_lt S1.out.pow s k hk
    have hlo' : imgTo lb s k < 4294967296 := hlo
    clear hlo
    have hsu := Lib.hid (imgTo_succ lb s k)
    by_cases hlt : k < lb.length
    · obtain ⟨rfl, hb1⟩ := P1.out (by omega)
      have hc1 := Q1.out k hlt
      have hn := S1.out.lt k hlt
      rw [S1.out.eq k hlt] at hc1
      clear P1 Q1
      cases hbit : s.testBit k
      · go_wp2_with (go_at_call 107; refine (l1Bit_c _ _ _ hset (by omega)).mono ?_; rintro e w' ⟨rfl, rfl⟩)
        go_round
        case rel => exact Lib.hid ⟨k + 1, by omega, by go_num, by rw [hsu.out, hbit]; rfl⟩
        case measure => simp [intOf]; omega
      · go_wp2_with (first | (go_at_call 107; refine (l1Bit_c _ _ _ hset (by omega)).mono ?_; rintro e w' ⟨rfl, rfl⟩) | (go_at_call 122; refine (l1Either_c _ _ _ hlo' hn).mono ?_; rintro e w' ⟨rfl, rfl⟩))
        go_round
        case rel => exact Lib.hid ⟨k + 1, by omega, by go_num, by rw [hsu.out, hbit]; rfl⟩
        case measure => simp [intOf]; omega
    · obtain rfl : k = lb.length := by omega
      go_wp2
      go_ret
      exact ⟨rfl, rfl⟩
theorem image_c (b : Option Addr) (cb : Nat) (lb : List Int) (s : Nat) (w : World) (hb : IntsAt w b lb) (hs : Sets lb) (hl : lb.length ≤ 32) (hset : s < 4294967296) :
    Calls Tryz.prog 81 #[.slice b lb.length cb, .int .i64 s] w fun e w' => e = .returned (.int .i64 (img lb s : Nat)) ∧ w = w' := by
  obtain ⟨b1, o1, p1, q1⟩ := hb
  have P1 := Lib.hid p1
  have Q1 := Lib.hid q1
  have S1 := Lib.hid hs
  clear p1 q1 hs
  go_enter Tryz.func81, Tryz.ntmps81
  go_wp2
  go_loop [5, 10] (fun o i => Hid (∃ k : Nat, k ≤ lb.length ∧ i = .int .i64 k ∧ o = .int .i64 (imgTo lb s k : Nat))) (fun _ i => lb.length - (intOf i).toNat)
  case atStart => exact Lib.hid ⟨0, Nat.zero_le _, rfl, rfl⟩
  case round =>
    obtain ⟨k, hk, rfl, rfl⟩ := hrel.out
    clear hrel
    have hlo : imgTo lb s k < 4294967296 := imgTo_lt S1.out.pow s k hk
    have hsu := Lib.hid (imgTo_succ lb s k)
    by_cases hlt : k < lb.length
    · obtain ⟨rfl, hb1⟩ := P1.out (by omega)
      have hc1 := Q1.out k hlt
      have hn := S1.out.lt k hlt
      have e := i64_orN _ _ hlo hn
      have eb := i64_bit_eq s k (by omega)
      rw [S1.out.eq k hlt] at hc1
      clear P1 Q1
      cases hbit : s.testBit k
      all_goals
        rw [hbit] at eb
        go_wp2
        go_round
        case rel => exact Lib.hid ⟨k + 1, by omega, by go_num, by rw [hsu.out, hbit]; rfl⟩
        case measure => simp [intOf]; omega
    · obtain rfl : k = lb.length := by omega
      go_wp2
      go_ret
      exact ⟨rfl, rfl⟩
end Go.Proofs.YtlaamecfknkmlaaGreat
/- Contracts: validity of rows and models. -/
namespace Go.Proofs.YtlaamecfknkmlaaGreat
set_option linter.unusedVariables false
open Go.RowKit Go.Kt

/-- Rows are valid. -/
def rvB (n : Int) (l : List Int) : Bool := decide (1 ≤ n ∧ n ≤ 5 ∧ (l.length : Int) = n ∧ ∀ x ∈ l, 0 ≤ x ∧ x < 2 ^ n.toNat)

/-- Not a set of so many states. -/
def notSet (s : Nat) (x : Int) : Bool := !decide (0 ≤ x ∧ x < 2 ^ s)

theorem rvClosure_c (b : Nat) (s : Nat) (x : Int) (w : World) (hs : s ≤ 5) (hb : w.cell? ⟨b, 0, none⟩ = some (.int .i64 s)) :
    Calls Tryz.prog 105 #[.int .i64 x, .pointer (some ⟨b, 0, none⟩)] w fun e w' => e = .returned (.bool (notSet s x)) ∧ w = w' := by
  go_enter Tryz.func105, Tryz.ntmps105
  go_wp2_with (go_at_call 80; refine (isSet_c _ _ _ hs).mono ?_; rintro e w' ⟨rfl, rfl⟩)
  go_ret
  exact ⟨by simp [notSet, setB], rfl⟩

/-- What slices.IndexFunc answers. -/
def findI (p : Int → Bool) (l : List Int) : Int := if l.any p then ((l.findIdx p : Nat) : Int) else -1

theorem findI_none (p : Int → Bool) (l : List Int) (h : ∀ j, j < l.length → p (nth l j) = false) : findI p l = -1 := by
  unfold findI
  rw [if_neg]
  rw [List.any_eq_true]
  rintro ⟨x, hx, hp⟩
  obtain ⟨j, hj, rfl⟩ := List.getElem_of_mem hx
  have := h j hj
  rw [nth_getElem l j hj] at this
  rw [this] at hp; cases hp
theorem findI_at (p : Int → Bool) (l : List Int) (k : Nat) (hk : k < l.length) (h : ∀ j, j < k → p (nth l j) = false) (hp : p (nth l k) = true) : findI p l = k := by
  unfold findI
  rw [nth_getElem l k hk] at hp
  rw [if_pos (List.any_eq_true.2 ⟨_, List.getElem_mem hk, hp⟩)]
  congr 1
  rw [List.findIdx_eq hk]
  refine ⟨hp, fun j hj => ?_⟩
  have := h j hj
  rwa [nth_getElem l j (by omega)] at this

theorem indexFunc_c (a : Option Addr) (cap : Nat) (l : List Int) (cv : Value) (p : Int → Bool) (w : World) (hl : IntsAt w a l) (hlen : l.length ≤ 4611686018427387904)
    (hf : ∀ x w1, x ∈ l → Ext w w1 → Calls Tryz.prog 105 #[.int .i64 x, cv] w1 fun e w' => e = .returned (.bool (p x)) ∧ Ext w1 w') :
    Calls Tryz.prog 151 #[.slice a l.length cap, .func (.func 105) #[] #[cv]] w fun e w' => e = .returned (.int .i64 (findI p l)) ∧ Ext w w' := by
  obtain ⟨b, off, h1, h2⟩ := hl
  have H1 := Lib.hid h1
  have H2 := Lib.hid h2
  have HF := Lib.hid hf
  clear h1 h2 hf
  go_enter Tryz.func151, Tryz.ntmps151
  go_wp2
  go_loopw [8] (fun i wr => Hid (∃ k : Nat, k ≤ l.length ∧ i = .int .i64 k ∧ (∀ j, j < k → p (nth l j) = false) ∧ Ext w wr)) (fun i _ => l.length - (intOf i).toNat)
  case atStart => exact Lib.hid ⟨0, Nat.zero_le _, rfl, fun j hj => absurd hj (Nat.not_lt_zero _), Ext.refl _⟩
  case round =>
    obtain ⟨k, hk, rfl, hno, hx⟩ := hrel.out
    clear hrel
    have hno' := Lib.hid hno
    clear hno
    by_cases hlt : k < l.length
    · obtain ⟨rfl, hb⟩ := H1.out (by omega)
      have hc := hx.cell' (H2.out k hlt) hb
      have hmem := nth_mem l k hlt
      cases hp : p (nth l k)
      all_goals
        have hp' := Lib.hid hp
        have hcall := Lib.hid (HF.out (nth l k) wr hmem hx)
        rw [hp] at hcall
        clear hp hmem
        go_wp2_with fail
        refine (hcall.out).mono ?_
        rintro e w1 ⟨rfl, hx1⟩
        go_wp2
      · go_roundw
        case rel => exact Lib.hid ⟨k + 1, by omega, by go_num, upto_succ hno'.out hp'.out, hx.trans hx1⟩
        case measure => simp [intOf]; omega
      · go_ret
        exact ⟨by rw [findI_at p l k hlt hno'.out hp'.out]; rfl, hx.trans hx1⟩
    · obtain rfl : k = l.length := by omega
      go_wp2
      go_ret
      exact ⟨by rw [findI_none p l hno'.out]; rfl, hx⟩

theorem findI_nonneg (p : Int → Bool) (l : List Int) : decide (0 ≤ findI p l) = l.any p := by
  unfold findI
  cases l.any p <;> simp

theorem containsFunc_c (a : Option Addr) (cap : Nat) (l : List Int) (cv : Value) (p : Int → Bool) (w : World) (hl : IntsAt w a l) (hlen : l.length ≤ 4611686018427387904)
    (hf : ∀ x w1, x ∈ l → Ext w w1 → Calls Tryz.prog 105 #[.int .i64 x, cv] w1 fun e w' => e = .returned (.bool (p x)) ∧ Ext w1 w') :
    Calls Tryz.prog 104 #[.slice a l.length cap, .func (.func 105) #[] #[cv]] w fun e w' => e = .returned (.bool (l.any p)) ∧ Ext w w' := by
  have HC := Lib.hid (indexFunc_c a cap l cv p w hl hlen hf)
  clear hf hl
  go_enter Tryz.func104, Tryz.ntmps104
  go_wp2_with fail
  refine HC.out.mono ?_
  rintro e w1 ⟨rfl, hx⟩
  go_wp2
  go_ret
  exact ⟨by rw [← findI_nonneg]; rfl, hx⟩

theorem rv_any (s : Nat) (l : List Int) (h1 : 1 ≤ s) (h2 : s ≤ 5) (hl : l.length = s) : (!l.any (notSet s)) = rvB s l := by
  rw [Bool.eq_iff_iff]
  simp only [rvB, notSet, Bool.not_eq_true', List.any_eq_false, decide_eq_true_eq, Int.toNat_natCast]
  constructor
  · intro h; exact ⟨by omega, by omega, by omega, fun x hx => by have := h x hx; simpa using this⟩
  · rintro ⟨_, _, _, h⟩ x hx; have := h x hx; simpa using this

theorem iRowsValid_c (n : Int) (a : Option Addr) (cap : Nat) (l : List Int) (w : World) (hl : IntsAt w a l) (hlen : l.length ≤ 4611686018427387904) :
    Calls Tryz.prog 34 #[.int .i64 n, .slice a l.length cap] w fun e w' => e = .returned (.bool (rvB n l)) ∧ Ext w w' := by
  by_cases h1 : 1 ≤ n ∧ n ≤ 5
  · obtain ⟨s, rfl⟩ := Int.eq_ofNat_of_zero_le (show 0 ≤ n by omega)
    by_cases h2 : l.length = s
    · have hany := Lib.hid (rv_any s l (by omega) (by omega) h2)
      have H2 := Lib.hid h2
      have ht : (((l.length : Nat) : Int) != (s : Int)) = false := by simp [h2]
      have hd : decide (1 ≤ (s : Int) ∧ (s : Int) ≤ 5) = true := by simp; omega
      have hlw := hl.ext (Ext.alloc (Ext.refl w) (.cells #[.int .i64 s] 3))
      clear h2 hl
      go_enter Tryz.func34, Tryz.ntmps34
      go_wp2_with fail
      refine (hasStates_c _ _).mono ?_
      rintro e w1 ⟨rfl, rfl⟩
      go_wp2_with fail
      refine (containsFunc_c a cap l _ (notSet s) _ hlw hlen ?_).mono ?_
      · intro x w1 _ hx
        refine (rvClosure_c w.heap.size s x w1 (by omega) ?_).mono ?_
        · exact hx.cell' (cell_new0 _ _ _) (by simp)
        · rintro e w' ⟨rfl, rfl⟩; exact ⟨rfl, Ext.refl _⟩
      · rintro e w1 ⟨rfl, hx⟩
        go_wp2
        go_ret
        exact ⟨by rw [← hany.out]; rfl, (Ext.alloc (Ext.refl w) _).trans hx⟩
    · have hr : rvB s l = false := by simp [rvB]; omega
      have hr' := Lib.hid hr
      have ht : (((l.length : Nat) : Int) != (s : Int)) = true := by simp; omega
      have hd : decide (1 ≤ (s : Int) ∧ (s : Int) ≤ 5) = true := by simp; omega
      clear h2 hl hr
      go_enter Tryz.func34, Tryz.ntmps34
      go_wp2_with fail
      refine (hasStates_c _ _).mono ?_
      rintro e w1 ⟨rfl, rfl⟩
      go_wp2
      go_ret
      exact ⟨by rw [hr'.out]; rfl, Ext.alloc (Ext.refl w) _⟩
  · have hr : rvB n l = false := by simp [rvB]; omega
    have hr' := Lib.hid hr
    have hd : decide (1 ≤ n ∧ n ≤ 5) = false := by simpa using h1
    clear h1 hl hr
    go_enter Tryz.func34, Tryz.ntmps34
    go_wp2_with fail
    refine (hasStates_c _ _).mono ?_
    rintro e w1 ⟨rfl, rfl⟩
    go_wp2
    go_ret
    exact ⟨by rw [hr'.out]; rfl, Ext.alloc (Ext.refl w) _⟩


theorem rvB_of (n : Int) (l : List Int) (h : ∀ j, j < l.length → inB (nth l j) 0 (2 ^ n.toNat - 1) = true) : rvB n l = (inB n 1 5 && ((l.length : Int) == n)) := by
  rw [Bool.eq_iff_iff]
  simp only [rvB, inB, decide_eq_true_eq, Bool.and_eq_true, beq_iff_eq]
  constructor
  · rintro ⟨a, b, c, _⟩; exact ⟨⟨a, b⟩, c⟩
  · rintro ⟨⟨a, b⟩, c⟩
    refine ⟨a, b, c, fun x hx => ?_⟩
    obtain ⟨j, hj, rfl⟩ := List.getElem_of_mem hx
    have := h j hj
    rw [nth_getElem l j hj] at this
    simp only [inB, decide_eq_true_eq] at this
    omega
theorem rvB_not (n : Int) (l : List Int) (k : Nat) (hk : k < l.length) (h : inB (nth l k) 0 (2 ^ n.toNat - 1) = false) : rvB n l = false := by
  simp only [rvB, decide_eq_false_iff_not]
  rintro ⟨a, b, c, d⟩
  have := d _ (nth_mem l k hk)
  simp only [inB, decide_eq_false_iff_not] at h
  omega
theorem rvB_out (n : Int) (l : List Int) (h : ¬ (1 ≤ n ∧ n ≤ 5)) : rvB n l = false := by
  simp [rvB]; omega

theorem sRowsValid_c (n : Int) (a : Option Addr) (cap : Nat) (l : List Int) (w : World) (hl : IntsAt w a l) (hlen : l.length ≤ 4611686018427387904) :
    Calls Tryz.prog 139 #[.int .i64 n, .slice a l.length cap] w fun e w' => e = .returned (.bool (rvB n l)) ∧ ∃ m, w' = w.drewN m := by
  obtain ⟨b, off, h1, h2⟩ := hl
  have H1 := Lib.hid h1
  have H2 := Lib.hid h2
  clear h1 h2
  go_enter Tryz.func139, Tryz.ntmps139
  go_wp2
  go_loopw [5] (fun i wr => Hid (∃ k : Nat, k ≤ l.length ∧ i = .int .i64 k ∧ (∀ j, j < k → 1 ≤ n → n ≤ 5 → inB (nth l j) 0 (2 ^ n.toNat - 1) = true) ∧ ∃ m, wr = w.drewN m)) (fun i _ => l.length - (intOf i).toNat)
  case atStart => exact Lib.hid ⟨0, Nat.zero_le _, rfl, fun j hj => absurd hj (Nat.not_lt_zero _), 0, rfl⟩
  case round =>
    obtain ⟨k, hk, rfl, hno, m, rfl⟩ := hrel.out
    have HN := Lib.hid hno
    clear hrel hno
    by_cases hv : 1 ≤ n ∧ n ≤ 5
    · obtain ⟨s, rfl⟩ := Int.eq_ofNat_of_zero_le (show 0 ≤ n by omega)
      have hp := pow_le_32 s (by omega)
      have hq := pow_pos' s
      obtain ⟨hv1, hv2⟩ := hv
      by_cases hlt : k < l.length
      · obtain ⟨rfl, hb⟩ := H1.out (by omega)
        have hc := H2.out k hlt
        clear H1 H2
        cases hin : inB (nth l k) 0 (2 ^ s - 1)
        all_goals
          go_wp2
          go_quiet ((go_at_call 61; exact quiet_same_add (l1In_c _ _ _ _)))
          go_wp2
        · go_ret
          exact ⟨by rw [rvB_not s l k hlt hin]; rfl, drawn2 _ _ _⟩
        · go_roundw
          case rel => exact Lib.hid ⟨k + 1, by omega, by go_num, upto_succ HN.out (fun _ _ => hin), _, rfl⟩
          case measure => simp [intOf]; omega
      · obtain rfl : k = l.length := by omega
        have hr := Lib.hid (rvB_of s l (fun j hj => HN.out j hj hv1 hv2))
        have hin : inB s 1 5 = true := by simp [inB]; omega
        go_wp2_with fail
        refine (l1In_c _ _ _ _).mono ?_
        rintro e w1 ⟨rfl, rfl⟩
        go_wp2
        go_ret
        exact ⟨by rw [hr.out, hin]; rfl, _, rfl⟩
    · have hr := Lib.hid (rvB_out n l hv)
      have hin : inB n 1 5 = false := by simp [inB]; omega
      by_cases hlt : k < l.length
      · obtain ⟨rfl, hb⟩ := H1.out (by omega)
        have hc := H2.out k hlt
        clear H1 H2
        have hv3 : n < 0 ∨ n = 0 ∨ 6 ≤ n := by omega
        clear hv
        rcases hv3 with hv3 | rfl | hv3
        · cases hi : inB (nth l k) 0 0
          all_goals
            go_wp2
            go_quiet ((go_at_call 61; exact quiet_same_add (l1In_c _ _ _ _)))
            go_wp2
          · go_ret
            exact ⟨by rw [hr.out]; rfl, by first | exact ⟨_, rfl⟩ | exact drawn2 _ _ _⟩
          · go_roundw
            case rel => exact Lib.hid ⟨k + 1, by omega, by go_num, upto_succ HN.out (fun _ _ => by omega), _, rfl⟩
            case measure => simp [intOf]; omega
        · cases hi : inB (nth l k) 0 0
          all_goals
            go_wp2
            go_quiet ((go_at_call 61; exact quiet_same_add (l1In_c _ _ _ _)))
            go_wp2
          · go_ret
            exact ⟨by rw [hr.out]; rfl, by first | exact ⟨_, rfl⟩ | exact drawn2 _ _ _⟩
          · go_roundw
            case rel => exact Lib.hid ⟨k + 1, by omega, by go_num, upto_succ HN.out (fun _ _ => by omega), _, rfl⟩
            case measure => simp [intOf]; omega
        · cases hi : inB (nth l k) 0 31
          all_goals
            go_wp2
            go_quiet ((go_at_call 61; exact quiet_same_add (l1In_c _ _ _ _)))
            go_wp2
          · go_ret
            exact ⟨by rw [hr.out]; rfl, by first | exact ⟨_, rfl⟩ | exact drawn2 _ _ _⟩
          · go_roundw
            case rel => exact Lib.hid ⟨k + 1, by omega, by go_num, upto_succ HN.out (fun _ _ => by omega), _, rfl⟩
            case measure => simp [intOf]; omega
      · obtain rfl : k = l.length := by omega
        go_wp2_with fail
        refine (l1In_c _ _ _ _).mono ?_
        rintro e w1 ⟨rfl, rfl⟩
        go_wp2
        go_ret
        exact ⟨by rw [hr.out]; rfl, _, rfl⟩
end Go.Proofs.YtlaamecfknkmlaaGreat
/- Contracts: copies of slices of ints, and whether two read alike. -/
namespace Go.Proofs.YtlaamecfknkmlaaGreat
set_option linter.unusedVariables false
open Go.RowKit Go.Kt

theorem infoInt : (Tryz.prog.info? 3).map (fun i => (i.zero, i.size, i.bytes)) = some (some (.int .i64 0), 1, 8) := by kernel_rfl

theorem sameInts_d (a a' : Option Addr) (cap cap' : Nat) (l l' : List Int) (w : World) (hl : IntsAt w a l) (hl' : IntsAt w a' l') (hlen : l.length ≤ 4611686018427387904) (hlen' : l'.length ≤ 4611686018427387904) :
    Calls Tryz.prog 32 #[.slice a l.length cap, .slice a' l'.length cap'] w fun e w' => e = .returned (.bool (l == l')) ∧ ∃ m, w' = w.drewN m := by
  obtain ⟨b, off, h1, h2⟩ := hl
  obtain ⟨b', off', h1', h2'⟩ := hl'
  have H1 := Lib.hid h1
  have H2 := Lib.hid h2
  have H1' := Lib.hid h1'
  have H2' := Lib.hid h2'
  clear h1 h2 h1' h2'
  by_cases hn : l.length = l'.length
  · have HN := Lib.hid hn
    have hne : (((l.length : Nat) : Int) != ((l'.length : Nat) : Int)) = false := by simp [hn]
    clear hn
    go_enter Tryz.func32, Tryz.ntmps32
    go_wp2
    go_loopw [5] (fun i wr => Hid (∃ k : Nat, k ≤ l.length ∧ i = .int .i64 k ∧ (∀ j, j < k → nth l j = nth l' j) ∧ ∃ m, wr = w.drewN m)) (fun i _ => l.length - (intOf i).toNat)
    case atStart => exact Lib.hid ⟨0, Nat.zero_le _, rfl, fun j hj => absurd hj (Nat.not_lt_zero _), 0, rfl⟩
    case round =>
      obtain ⟨k, hk, rfl, hno, m, rfl⟩ := hrel.out
      have HD := Lib.hid hno
      clear hrel hno
      by_cases hlt : k < l.length
      · obtain ⟨rfl, hb⟩ := H1.out (by omega)
        obtain ⟨rfl, hb'⟩ := H1'.out (by have := HN.out; omega)
        have hc := H2.out k hlt
        have hlt' : k < l'.length := by have := HN.out; omega
        have hc' := H2'.out k hlt'
        clear H1 H2 H1' H2'
        cases hq : (nth l k != nth l' k)
        all_goals
          go_wp2
          go_quiet (fail)
          go_wp2
        · go_roundw
          case rel => exact Lib.hid ⟨k + 1, by omega, by go_num, upto_succ HD.out (by simpa using hq), by first | exact ⟨_, rfl⟩ | exact drawn2 _ _ _⟩
          case measure => simp [intOf]; omega
        · go_ret
          have hf : (l == l') = false := by rw [beq_eq_false_iff_ne]; rintro rfl; simp at hq
          exact ⟨by rw [hf]; rfl, by first | exact ⟨_, rfl⟩ | exact drawn2 _ _ _⟩
      · obtain rfl : k = l.length := by omega
        have hf := Lib.hid (show (l == l') = true by rw [beq_iff_eq]; exact ext_nth l l' HN.out HD.out)
        go_wp2
        go_ret
        exact ⟨by rw [hf.out]; rfl, _, rfl⟩
  · have hq := Lib.hid (show (l == l') = false by rw [beq_eq_false_iff_ne]; rintro rfl; exact hn rfl)
    have hne : (((l.length : Nat) : Int) != ((l'.length : Nat) : Int)) = true := by simp; omega
    clear hn
    go_enter Tryz.func32, Tryz.ntmps32
    go_wp2
    go_ret
    exact ⟨by rw [hq.out]; rfl, 0, rfl⟩

theorem sameInts_c (a a' : Option Addr) (cap cap' : Nat) (l l' : List Int) (w : World) (hl : IntsAt w a l) (hl' : IntsAt w a' l') (hlen : l.length ≤ 4611686018427387904) (hlen' : l'.length ≤ 4611686018427387904) :
    Calls Tryz.prog 32 #[.slice a l.length cap, .slice a' l'.length cap'] w fun e w' => e = .returned (.bool (l == l')) ∧ Ext w w' :=
  (sameInts_d a a' cap cap' l l' w hl hl' hlen hlen').mono fun _ _ ⟨h, m, hm⟩ => ⟨h, by rw [hm]; exact (Ext.refl w).drewN m⟩

end Go.Proofs.YtlaamecfknkmlaaGreat
