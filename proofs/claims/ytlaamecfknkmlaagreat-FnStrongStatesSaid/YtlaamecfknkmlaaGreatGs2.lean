/- Merged texts: contracts and plain lemmas (A, B, C, Ka, G, I, Act, Tv, Yl, Zb, Zc, Zd, Wk, H, Ze, Nf). -/
import Derived.Test.YtlaamecfknkmlaaGreatRows
import Derived.Test.YtlaamecfknkmlaaGreatGs1
import Derived.BigQuiet
import Derived.Deep.QuietTactic
import Derived.Deep.LoopGhost
import Derived.Deep.RegionLaw
namespace Go.Proofs.YtlaamecfknkmlaaGreat
set_option linter.unusedVariables false
open Go.RowKit Go.Kt

/-- Within bounds. -/
def inB (n a b : Int) : Bool := decide (a ≤ n ∧ n ≤ b)

theorem l1In_c (n a b : Int) (w : World) :
    Calls Tryz.prog 61 #[.int .i64 n, .int .i64 a, .int .i64 b] w fun e w' => e = .returned (.bool (inB n a b)) ∧ w = w' := by
  by_cases h1 : a ≤ n
  all_goals
    go_enter Tryz.func61, Tryz.ntmps61
    go_wp2
    go_ret
    exact ⟨by simp [inB, h1]; try omega, rfl⟩
theorem holds_c (t a : Nat) (w : World) (ht : t < 4294967296) (_ha : a < 60) :
    Calls Tryz.prog 74 #[.int .i64 t, .int .i64 a] w fun e w' => e = .returned (.bool (t.testBit a)) ∧ w = w' := by
  go_enter Tryz.func74, Tryz.ntmps74
  go_wp2
  go_ret
  exact ⟨by rw [← i64_bit_eq t a (by omega)]; rfl, rfl⟩
theorem l1Bit_c (t a : Nat) (w : World) (_ht : t < 4294967296) (_ha : a < 60) :
    Calls Tryz.prog 107 #[.int .i64 t, .int .i64 a] w fun e w' => e = .returned (.int .i64 ((t.testBit a).toNat : Nat)) ∧ w = w' := by
  go_enter Tryz.func107, Tryz.ntmps107
  go_wp2
  go_ret
  exact ⟨by rw [← tmod_bit t a]; rfl, rfl⟩
theorem hasStates_c (n : Int) (w : World) :
    Calls Tryz.prog 103 #[.int .i64 n] w fun e w' => e = .returned (.bool (decide (1 ≤ n ∧ n ≤ 5))) ∧ w = w' := by
  by_cases h1 : 1 ≤ n
  all_goals
    go_enter Tryz.func103, Tryz.ntmps103
    go_wp2
    go_ret
    exact ⟨by simp [h1]; try omega, rfl⟩
/-- A set of so many states. -/
def setB (s : Nat) (x : Int) : Bool := decide (0 ≤ x ∧ x < 2 ^ s)

theorem isSet_c (s : Nat) (x : Int) (w : World) (hs : s ≤ 5) :
    Calls Tryz.prog 80 #[.int .i64 s, .int .i64 x] w fun e w' => e = .returned (.bool (setB s x)) ∧ w = w' := by
  have hp := pow_le_32 s hs
  have hq := pow_pos' s
  by_cases h1 : 0 ≤ x
  all_goals
    go_enter Tryz.func80, Tryz.ntmps80
    go_wp2
    go_ret
    exact ⟨by simp [setB, h1]; try omega, rfl⟩
theorem l1Both_c (a b : Nat) (w : World) (ha : a < 4294967296) (hb : b < 4294967296) :
    Calls Tryz.prog 90 #[.int .i64 a, .int .i64 b] w fun e w' => e = .returned (.int .i64 (andN a b : Nat)) ∧ w = w' := by
  go_enter Tryz.func90, Tryz.ntmps90
  go_wp2
  go_loop [5, 6] (fun o i => ∃ k : Nat, k ≤ 32 ∧ i = .int .i64 k ∧ o = .int .i64 (andTo a b k)) (fun _ i => 40 - (intOf i).toNat)
  case atStart => exact ⟨0, by omega, rfl, by rw [andTo_zero]; rfl⟩
  case round =>
    obtain ⟨k, hk, rfl, rfl⟩ := hrel
    have hp := pow_le_big k 32 hk
    have hq := pow_pos' k
    have hle := andTo_le a b k
    have hs := Lib.hid (andTo_succ a b k)
    by_cases h : (2 : Int) ^ k ≤ a ∧ (2 : Int) ^ k ≤ b
    · obtain ⟨h1, h2⟩ := h
      have hk2 : k < 32 := by
        apply Decidable.byContradiction; intro hn
        obtain rfl : k = 32 := by omega
        omega
      cases hA : a.testBit k
      all_goals cases hB : b.testBit k
      all_goals
        go_wp2_with (go_at_call 107; refine (l1Bit_c _ _ _ (by omega) (by omega)).mono ?_; rintro e w' ⟨rfl, rfl⟩)
        go_round
        case rel => exact ⟨k + 1, by omega, by go_num, by rw [hs.out, hA, hB]; simp⟩
        case measure => simp [intOf]; omega
    · have he : andTo a b k = andN a b := andTo_end a b k (by
        rcases Nat.lt_or_ge a (2 ^ k) with h1 | h1
        · exact .inl h1
        · rcases Nat.lt_or_ge b (2 ^ k) with h2 | h2
          · exact .inr h2
          · exact absurd ⟨by exact_mod_cast h1, by exact_mod_cast h2⟩ h)
      have he' := Lib.hid he
      clear he
      by_cases h1 : (2 : Int) ^ k ≤ a
      all_goals
        have h3 : ¬ ((2 : Int) ^ k ≤ b) ∨ ¬ (2 : Int) ^ k ≤ a := by omega
        clear h
        go_wp2
        go_ret
        exact ⟨by rw [← he'.out]; rfl, rfl⟩
theorem l1Either_c (a b : Nat) (w : World) (ha : a < 4294967296) (hb : b < 4294967296) :
    Calls Tryz.prog 122 #[.int .i64 a, .int .i64 b] w fun e w' => e = .returned (.int .i64 (orN a b : Nat)) ∧ w = w' := by
  have hle := andN_le a b
  go_enter Tryz.func122, Tryz.ntmps122
  go_wp2_with fail
  refine (l1Both_c _ _ _ ha hb).mono ?_
  rintro e w1 ⟨rfl, rfl⟩
  have h3 := Lib.hid (orN_add a b)
  go_wp2
  go_ret
  exact ⟨by rw [h3.out]; rfl, rfl⟩
theorem l7Image_c (b : Option Addr) (cb : Nat) (lb : List Int) (s : Nat) (w : World) (hb : IntsAt w b lb) (hs : Sets lb) (hl : lb.length ≤ 32) (hset : s < 4294967296) :
    Calls Tryz.prog 84 #[.slice b lb.length cb, .int .i64 s] w fun e w' => e = .returned (.int .i64 (img lb s : Nat)) ∧ w = w' := by
  obtain ⟨b1, o1, p1, q1⟩ := hb
  have P1 := Lib.hid p1
  have Q1 := Lib.hid q1
  have S1 := Lib.hid hs
  clear p1 q1 hs
  go_enter Tryz.func84, Tryz.ntmps84
  go_wp2
  go_loop [5, 6] (fun o i => Hid (∃ k : Nat, k ≤ lb.length ∧ i = .int .i64 k ∧ o = .int .i64 (imgTo lb s k : Nat))) (fun _ i => lb.length - (intOf i).toNat)
  case atStart => exact Lib.hid ⟨0, Nat.zero_le _, rfl, rfl⟩
  case round =>
    obtain ⟨k, hk, rfl, rfl⟩ := hrel.out
    clear hrel
    have hlo := imgTo_lt S1.out.pow s k hk
    have hlo' : imgTo lb s k < 4294967296 := hlo
    clear hlo
    have hsu := Lib.hid (imgTo_succ lb s k)
    by_cases hlt : k < lb.length
    · obtain ⟨rfl, hb1⟩ := P1.out (by omega)
      have hc1 := Q1.out k hlt
      have hn := S1.out.lt k hlt
      rw [S1.out.eq k hlt] at hc1
      clear P1 Q1
      cases hbit : s.testBit k
      · go_wp2_with (go_at_call 107; refine (l1Bit_c _ _ _ hset (by omega)).mono ?_; rintro e w' ⟨rfl, rfl⟩)
        go_round
        case rel => exact Lib.hid ⟨k + 1, by omega, by go_num, by rw [hsu.out, hbit]; rfl⟩
        case measure => simp [intOf]; omega
      · go_wp2_with (first | (go_at_call 107; refine (l1Bit_c _ _ _ hset (by omega)).mono ?_; rintro e w' ⟨rfl, rfl⟩) | (go_at_call 122; refine (l1Either_c _ _ _ hlo' hn).mono ?_; rintro e w' ⟨rfl, rfl⟩))
        go_round
        case rel => exact Lib.hid ⟨k + 1, by omega, by go_num, by rw [hsu.out, hbit]; rfl⟩
        case measure => simp [intOf]; omega
    · obtain rfl : k = lb.length := by omega
      go_wp2
      go_ret
      exact ⟨rfl, rfl⟩
theorem image_c (b : Option Addr) (cb : Nat) (lb : List Int) (s : Nat) (w : World) (hb : IntsAt w b lb) (hs : Sets lb) (hl : lb.length ≤ 32) (hset : s < 4294967296) :
    Calls Tryz.prog 81 #[.slice b lb.length cb, .int .i64 s] w fun e w' => e = .returned (.int .i64 (img lb s : Nat)) ∧ w = w' := by
  obtain ⟨b1, o1, p1, q1⟩ := hb
  have P1 := Lib.hid p1
  have Q1 := Lib.hid q1
  have S1 := Lib.hid hs
  clear p1 q1 hs
  go_enter Tryz.func81, Tryz.ntmps81
  go_wp2
  go_loop [5, 10] (fun o i => Hid (∃ k : Nat, k ≤ lb.length ∧ i = .int .i64 k ∧ o = .int .i64 (imgTo lb s k : Nat))) (fun _ i => lb.length - (intOf i).toNat)
  case atStart => exact Lib.hid ⟨0, Nat.zero_le _, rfl, rfl⟩
  case round =>
    obtain ⟨k, hk, rfl, rfl⟩ := hrel.out
    clear hrel
    have hlo : imgTo lb s k < 4294967296 := imgTo_lt S1.out.pow s k hk
    have hsu := Lib.hid (imgTo_succ lb s k)
    by_cases hlt : k < lb.length
    · obtain ⟨rfl, hb1⟩ := P1.out (by omega)
      have hc1 := Q1.out k hlt
      have hn := S1.out.lt k hlt
      have e := i64_orN _ _ hlo hn
      have eb := i64_bit_eq s k (by omega)
      rw [S1.out.eq k hlt] at hc1
      clear P1 Q1
      cases hbit : s.testBit k
      all_goals
        rw [hbit] at eb
        go_wp2
        go_round
        case rel => exact Lib.hid ⟨k + 1, by omega, by go_num, by rw [hsu.out, hbit]; rfl⟩
        case measure => simp [intOf]; omega
    · obtain rfl : k = lb.length := by omega
      go_wp2
      go_ret
      exact ⟨rfl, rfl⟩
end Go.Proofs.YtlaamecfknkmlaaGreat
namespace Go.Proofs.YtlaamecfknkmlaaGreat
set_option linter.unusedVariables false
open Go.RowKit Go.Kt

/-- Rows are valid. -/
def rvB (n : Int) (l : List Int) : Bool := decide (1 ≤ n ∧ n ≤ 5 ∧ (l.length : Int) = n ∧ ∀ x ∈ l, 0 ≤ x ∧ x < 2 ^ n.toNat)

/-- Not a set of so many states. -/
def notSet (s : Nat) (x : Int) : Bool := !decide (0 ≤ x ∧ x < 2 ^ s)

theorem rvClosure_c (b : Nat) (s : Nat) (x : Int) (w : World) (hs : s ≤ 5) (hb : w.cell? ⟨b, 0, none⟩ = some (.int .i64 s)) :
    Calls Tryz.prog 105 #[.int .i64 x, .pointer (some ⟨b, 0, none⟩)] w fun e w' => e = .returned (.bool (notSet s x)) ∧ w = w' := by
  go_enter Tryz.func105, Tryz.ntmps105
  go_wp2_with (go_at_call 80; refine (isSet_c _ _ _ hs).mono ?_; rintro e w' ⟨rfl, rfl⟩)
  go_ret
  exact ⟨by simp [notSet, setB], rfl⟩

/-- What slices.IndexFunc answers. -/
def findI (p : Int → Bool) (l : List Int) : Int := if l.any p then ((l.findIdx p : Nat) : Int) else -1

theorem findI_none (p : Int → Bool) (l : List Int) (h : ∀ j, j < l.length → p (nth l j) = false) : findI p l = -1 := by
  unfold findI
  rw [if_neg]
  rw [List.any_eq_true]
  rintro ⟨x, hx, hp⟩
  obtain ⟨j, hj, rfl⟩ := List.getElem_of_mem hx
  have := h j hj
  rw [nth_getElem l j hj] at this
  rw [this] at hp; cases hp
theorem findI_at (p : Int → Bool) (l : List Int) (k : Nat) (hk : k < l.length) (h : ∀ j, j < k → p (nth l j) = false) (hp : p (nth l k) = true) : findI p l = k := by
  unfold findI
  rw [nth_getElem l k hk] at hp
  rw [if_pos (List.any_eq_true.2 ⟨_, List.getElem_mem hk, hp⟩)]
  congr 1
  rw [List.findIdx_eq hk]
  refine ⟨hp, fun j hj => ?_⟩
  have := h j hj
  rwa [nth_getElem l j (by omega)] at this

theorem indexFunc_c (a : Option Addr) (cap : Nat) (l : List Int) (cv : Value) (p : Int → Bool) (w : World) (hl : IntsAt w a l) (hlen : l.length ≤ 4611686018427387904)
    (hf : ∀ x w1, x ∈ l → Ext w w1 → Calls Tryz.prog 105 #[.int .i64 x, cv] w1 fun e w' => e = .returned (.bool (p x)) ∧ Ext w1 w') :
    Calls Tryz.prog 151 #[.slice a l.length cap, .func (.func 105) #[] #[cv]] w fun e w' => e = .returned (.int .i64 (findI p l)) ∧ Ext w w' := by
  obtain ⟨b, off, h1, h2⟩ := hl
  have H1 := Lib.hid h1
  have H2 := Lib.hid h2
  have HF := Lib.hid hf
  clear h1 h2 hf
  go_enter Tryz.func151, Tryz.ntmps151
  go_wp2
  go_loopw [8] (fun i wr => Hid (∃ k : Nat, k ≤ l.length ∧ i = .int .i64 k ∧ (∀ j, j < k → p (nth l j) = false) ∧ Ext w wr)) (fun i _ => l.length - (intOf i).toNat)
  case atStart => exact Lib.hid ⟨0, Nat.zero_le _, rfl, fun j hj => absurd hj (Nat.not_lt_zero _), Ext.refl _⟩
  case round =>
    obtain ⟨k, hk, rfl, hno, hx⟩ := hrel.out
    clear hrel
    have hno' := Lib.hid hno
    clear hno
    by_cases hlt : k < l.length
    · obtain ⟨rfl, hb⟩ := H1.out (by omega)
      have hc := hx.cell' (H2.out k hlt) hb
      have hmem := nth_mem l k hlt
      cases hp : p (nth l k)
      all_goals
        have hp' := Lib.hid hp
        have hcall := Lib.hid (HF.out (nth l k) wr hmem hx)
        rw [hp] at hcall
        clear hp hmem
        go_wp2_with fail
        refine (hcall.out).mono ?_
        rintro e w1 ⟨rfl, hx1⟩
        go_wp2
      · go_roundw
        case rel => exact Lib.hid ⟨k + 1, by omega, by go_num, upto_succ hno'.out hp'.out, hx.trans hx1⟩
        case measure => simp [intOf]; omega
      · go_ret
        exact ⟨by rw [findI_at p l k hlt hno'.out hp'.out]; rfl, hx.trans hx1⟩
    · obtain rfl : k = l.length := by omega
      go_wp2
      go_ret
      exact ⟨by rw [findI_none p l hno'.out]; rfl, hx⟩

theorem findI_nonneg (p : Int → Bool) (l : List Int) : decide (0 ≤ findI p l) = l.any p := by
  unfold findI
  cases l.any p <;> simp

theorem containsFunc_c (a : Option Addr) (cap : Nat) (l : List Int) (cv : Value) (p : Int → Bool) (w : World) (hl : IntsAt w a l) (hlen : l.length ≤ 4611686018427387904)
    (hf : ∀ x w1, x ∈ l → Ext w w1 → Calls Tryz.prog 105 #[.int .i64 x, cv] w1 fun e w' => e = .returned (.bool (p x)) ∧ Ext w1 w') :
    Calls Tryz.prog 104 #[.slice a l.length cap, .func (.func 105) #[] #[cv]] w fun e w' => e = .returned (.bool (l.any p)) ∧ Ext w w' := by
  have HC := Lib.hid (indexFunc_c a cap l cv p w hl hlen hf)
  clear hf hl
  go_enter Tryz.func104, Tryz.ntmps104
  go_wp2_with fail
  refine HC.out.mono ?_
  rintro e w1 ⟨rfl, hx⟩
  go_wp2
  go_ret
  exact ⟨by rw [← findI_nonneg]; rfl, hx⟩

theorem rv_any (s : Nat) (l : List Int) (h1 : 1 ≤ s) (h2 : s ≤ 5) (hl : l.length = s) : (!l.any (notSet s)) = rvB s l := by
  rw [Bool.eq_iff_iff]
  simp only [rvB, notSet, Bool.not_eq_true', List.any_eq_false, decide_eq_true_eq, Int.toNat_natCast]
  constructor
  · intro h; exact ⟨by omega, by omega, by omega, fun x hx => by have := h x hx; simpa using this⟩
  · rintro ⟨_, _, _, h⟩ x hx; have := h x hx; simpa using this

theorem iRowsValid_c (n : Int) (a : Option Addr) (cap : Nat) (l : List Int) (w : World) (hl : IntsAt w a l) (hlen : l.length ≤ 4611686018427387904) :
    Calls Tryz.prog 34 #[.int .i64 n, .slice a l.length cap] w fun e w' => e = .returned (.bool (rvB n l)) ∧ Ext w w' := by
  by_cases h1 : 1 ≤ n ∧ n ≤ 5
  · obtain ⟨s, rfl⟩ := Int.eq_ofNat_of_zero_le (show 0 ≤ n by omega)
    by_cases h2 : l.length = s
    · have hany := Lib.hid (rv_any s l (by omega) (by omega) h2)
      have H2 := Lib.hid h2
      have ht : (((l.length : Nat) : Int) != (s : Int)) = false := by simp [h2]
      have hd : decide (1 ≤ (s : Int) ∧ (s : Int) ≤ 5) = true := by simp; omega
      have hlw := hl.ext (Ext.alloc (Ext.refl w) (.cells #[.int .i64 s] 3))
      clear h2 hl
      go_enter Tryz.func34, Tryz.ntmps34
      go_wp2_with fail
      refine (hasStates_c _ _).mono ?_
      rintro e w1 ⟨rfl, rfl⟩
      go_wp2_with fail
      refine (containsFunc_c a cap l _ (notSet s) _ hlw hlen ?_).mono ?_
      · intro x w1 _ hx
        refine (rvClosure_c w.heap.size s x w1 (by omega) ?_).mono ?_
        · exact hx.cell' (cell_new0 _ _ _) (by simp)
        · rintro e w' ⟨rfl, rfl⟩; exact ⟨rfl, Ext.refl _⟩
      · rintro e w1 ⟨rfl, hx⟩
        go_wp2
        go_ret
        exact ⟨by rw [← hany.out]; rfl, (Ext.alloc (Ext.refl w) _).trans hx⟩
    · have hr : rvB s l = false := by simp [rvB]; omega
      have hr' := Lib.hid hr
      have ht : (((l.length : Nat) : Int) != (s : Int)) = true := by simp; omega
      have hd : decide (1 ≤ (s : Int) ∧ (s : Int) ≤ 5) = true := by simp; omega
      clear h2 hl hr
      go_enter Tryz.func34, Tryz.ntmps34
      go_wp2_with fail
      refine (hasStates_c _ _).mono ?_
      rintro e w1 ⟨rfl, rfl⟩
      go_wp2
      go_ret
      exact ⟨by rw [hr'.out]; rfl, Ext.alloc (Ext.refl w) _⟩
  · have hr : rvB n l = false := by simp [rvB]; omega
    have hr' := Lib.hid hr
    have hd : decide (1 ≤ n ∧ n ≤ 5) = false := by simpa using h1
    clear h1 hl hr
    go_enter Tryz.func34, Tryz.ntmps34
    go_wp2_with fail
    refine (hasStates_c _ _).mono ?_
    rintro e w1 ⟨rfl, rfl⟩
    go_wp2
    go_ret
    exact ⟨by rw [hr'.out]; rfl, Ext.alloc (Ext.refl w) _⟩


theorem rvB_of (n : Int) (l : List Int) (h : ∀ j, j < l.length → inB (nth l j) 0 (2 ^ n.toNat - 1) = true) : rvB n l = (inB n 1 5 && ((l.length : Int) == n)) := by
  rw [Bool.eq_iff_iff]
  simp only [rvB, inB, decide_eq_true_eq, Bool.and_eq_true, beq_iff_eq]
  constructor
  · rintro ⟨a, b, c, _⟩; exact ⟨⟨a, b⟩, c⟩
  · rintro ⟨⟨a, b⟩, c⟩
    refine ⟨a, b, c, fun x hx => ?_⟩
    obtain ⟨j, hj, rfl⟩ := List.getElem_of_mem hx
    have := h j hj
    rw [nth_getElem l j hj] at this
    simp only [inB, decide_eq_true_eq] at this
    omega
theorem rvB_not (n : Int) (l : List Int) (k : Nat) (hk : k < l.length) (h : inB (nth l k) 0 (2 ^ n.toNat - 1) = false) : rvB n l = false := by
  simp only [rvB, decide_eq_false_iff_not]
  rintro ⟨a, b, c, d⟩
  have := d _ (nth_mem l k hk)
  simp only [inB, decide_eq_false_iff_not] at h
  omega
theorem rvB_out (n : Int) (l : List Int) (h : ¬ (1 ≤ n ∧ n ≤ 5)) : rvB n l = false := by
  simp [rvB]; omega

theorem sRowsValid_c (n : Int) (a : Option Addr) (cap : Nat) (l : List Int) (w : World) (hl : IntsAt w a l) (hlen : l.length ≤ 4611686018427387904) :
    Calls Tryz.prog 139 #[.int .i64 n, .slice a l.length cap] w fun e w' => e = .returned (.bool (rvB n l)) ∧ ∃ m, w' = w.drewN m := by
  obtain ⟨b, off, h1, h2⟩ := hl
  have H1 := Lib.hid h1
  have H2 := Lib.hid h2
  clear h1 h2
  go_enter Tryz.func139, Tryz.ntmps139
  go_wp2
  go_loopw [5] (fun i wr => Hid (∃ k : Nat, k ≤ l.length ∧ i = .int .i64 k ∧ (∀ j, j < k → 1 ≤ n → n ≤ 5 → inB (nth l j) 0 (2 ^ n.toNat - 1) = true) ∧ ∃ m, wr = w.drewN m)) (fun i _ => l.length - (intOf i).toNat)
  case atStart => exact Lib.hid ⟨0, Nat.zero_le _, rfl, fun j hj => absurd hj (Nat.not_lt_zero _), 0, rfl⟩
  case round =>
    obtain ⟨k, hk, rfl, hno, m, rfl⟩ := hrel.out
    have HN := Lib.hid hno
    clear hrel hno
    by_cases hv : 1 ≤ n ∧ n ≤ 5
    · obtain ⟨s, rfl⟩ := Int.eq_ofNat_of_zero_le (show 0 ≤ n by omega)
      have hp := pow_le_32 s (by omega)
      have hq := pow_pos' s
      obtain ⟨hv1, hv2⟩ := hv
      by_cases hlt : k < l.length
      · obtain ⟨rfl, hb⟩ := H1.out (by omega)
        have hc := H2.out k hlt
        clear H1 H2
        cases hin : inB (nth l k) 0 (2 ^ s - 1)
        all_goals
          go_wp2
          go_quiet ((go_at_call 61; exact quiet_same_add (l1In_c _ _ _ _)))
          go_wp2
        · go_ret
          exact ⟨by rw [rvB_not s l k hlt hin]; rfl, drawn2 _ _ _⟩
        · go_roundw
          case rel => exact Lib.hid ⟨k + 1, by omega, by go_num, upto_succ HN.out (fun _ _ => hin), _, rfl⟩
          case measure => simp [intOf]; omega
      · obtain rfl : k = l.length := by omega
        have hr := Lib.hid (rvB_of s l (fun j hj => HN.out j hj hv1 hv2))
        have hin : inB s 1 5 = true := by simp [inB]; omega
        go_wp2_with fail
        refine (l1In_c _ _ _ _).mono ?_
        rintro e w1 ⟨rfl, rfl⟩
        go_wp2
        go_ret
        exact ⟨by rw [hr.out, hin]; rfl, _, rfl⟩
    · have hr := Lib.hid (rvB_out n l hv)
      have hin : inB n 1 5 = false := by simp [inB]; omega
      by_cases hlt : k < l.length
      · obtain ⟨rfl, hb⟩ := H1.out (by omega)
        have hc := H2.out k hlt
        clear H1 H2
        have hv3 : n < 0 ∨ n = 0 ∨ 6 ≤ n := by omega
        clear hv
        rcases hv3 with hv3 | rfl | hv3
        · cases hi : inB (nth l k) 0 0
          all_goals
            go_wp2
            go_quiet ((go_at_call 61; exact quiet_same_add (l1In_c _ _ _ _)))
            go_wp2
          · go_ret
            exact ⟨by rw [hr.out]; rfl, by first | exact ⟨_, rfl⟩ | exact drawn2 _ _ _⟩
          · go_roundw
            case rel => exact Lib.hid ⟨k + 1, by omega, by go_num, upto_succ HN.out (fun _ _ => by omega), _, rfl⟩
            case measure => simp [intOf]; omega
        · cases hi : inB (nth l k) 0 0
          all_goals
            go_wp2
            go_quiet ((go_at_call 61; exact quiet_same_add (l1In_c _ _ _ _)))
            go_wp2
          · go_ret
            exact ⟨by rw [hr.out]; rfl, by first | exact ⟨_, rfl⟩ | exact drawn2 _ _ _⟩
          · go_roundw
            case rel => exact Lib.hid ⟨k + 1, by omega, by go_num, upto_succ HN.out (fun _ _ => by omega), _, rfl⟩
            case measure => simp [intOf]; omega
        · cases hi : inB (nth l k) 0 31
          all_goals
            go_wp2
            go_quiet ((go_at_call 61; exact quiet_same_add (l1In_c _ _ _ _)))
            go_wp2
          · go_ret
            exact ⟨by rw [hr.out]; rfl, by first | exact ⟨_, rfl⟩ | exact drawn2 _ _ _⟩
          · go_roundw
            case rel => exact Lib.hid ⟨k + 1, by omega, by go_num, upto_succ HN.out (fun _ _ => by omega), _, rfl⟩
            case measure => simp [intOf]; omega
      · obtain rfl : k = l.length := by omega
        go_wp2_with fail
        refine (l1In_c _ _ _ _).mono ?_
        rintro e w1 ⟨rfl, rfl⟩
        go_wp2
        go_ret
        exact ⟨by rw [hr.out]; rfl, _, rfl⟩
end Go.Proofs.YtlaamecfknkmlaaGreat
namespace Go.Proofs.YtlaamecfknkmlaaGreat
set_option linter.unusedVariables false
open Go.RowKit Go.Kt

theorem infoInt : (Tryz.prog.info? 3).map (fun i => (i.zero, i.size, i.bytes)) = some (some (.int .i64 0), 1, 8) := by kernel_rfl

end Go.Proofs.YtlaamecfknkmlaaGreat
namespace Go.Proofs.YtlaamecfknkmlaaGreat
set_option linter.unusedVariables false
open Go.RowKit Go.Kt

theorem tkK_cases (x : Int) : (x = 19 ∧ tkK x = 2) ∨ (x = 20 ∧ tkK x = 2) ∨ (x = 21 ∧ tkK x = 1) ∨ ((x ≠ 19 ∧ x ≠ 20 ∧ x ≠ 21) ∧ tkK x = 0) := by
  unfold tkK
  by_cases h1 : x = 19
  · exact .inl ⟨h1, if_pos (.inl h1)⟩
  · by_cases h2 : x = 20
    · exact .inr (.inl ⟨h2, if_pos (.inr h2)⟩)
    · by_cases h3 : x = 21
      · exact .inr (.inr (.inl ⟨h3, by rw [if_neg (by omega), if_pos h3]⟩))
      · exact .inr (.inr (.inr ⟨⟨h1, h2, h3⟩, by rw [if_neg (by omega), if_neg h3]⟩))
theorem l2Takes_c (x : Int) (w : World) : Calls Tryz.prog 140 #[.int .i64 x] w fun e w' => e = .returned (.int .i64 (tkK x)) ∧ w = w' := by
  rcases tkK_cases x with ⟨rfl, h⟩ | ⟨rfl, h⟩ | ⟨rfl, h⟩ | ⟨⟨h1, h2, h3⟩, h⟩
  · have H := Lib.hid h
    clear h
    go_enter Tryz.func140, Tryz.ntmps140
    go_wp2
    go_ret
    exact ⟨by rw [H.out]; rfl, rfl⟩
  · have H := Lib.hid h
    clear h
    go_enter Tryz.func140, Tryz.ntmps140
    go_wp2
    go_ret
    exact ⟨by rw [H.out]; rfl, rfl⟩
  · have H := Lib.hid h
    clear h
    go_enter Tryz.func140, Tryz.ntmps140
    go_wp2
    go_ret
    exact ⟨by rw [H.out]; rfl, rfl⟩
  · have H := Lib.hid h
    have e1 : (x == 19) = false := by simp [h1]
    have e2 : (x == 20) = false := by simp [h2]
    have e3 : (x == 21) = false := by simp [h3]
    clear h h1 h2 h3
    go_enter Tryz.func140, Tryz.ntmps140
    go_wp2
    go_ret
    exact ⟨by rw [H.out]; rfl, rfl⟩
theorem takes_c (x : Int) (w : World) : Calls Tryz.prog 126 #[.int .i64 x] w fun e w' => e = .returned (.int .i64 (tkK x)) ∧ w = w' := by
  rcases tkK_cases x with ⟨rfl, h⟩ | ⟨rfl, h⟩ | ⟨rfl, h⟩ | ⟨⟨h1, h2, h3⟩, h⟩
  · have H := Lib.hid h
    clear h
    go_enter Tryz.func126, Tryz.ntmps126
    go_wp2
    go_ret
    exact ⟨by rw [H.out]; rfl, rfl⟩
  · have H := Lib.hid h
    clear h
    go_enter Tryz.func126, Tryz.ntmps126
    go_wp2
    go_ret
    exact ⟨by rw [H.out]; rfl, rfl⟩
  · have H := Lib.hid h
    clear h
    go_enter Tryz.func126, Tryz.ntmps126
    go_wp2
    go_ret
    exact ⟨by rw [H.out]; rfl, rfl⟩
  · have H := Lib.hid h
    have e1 : (x == 19) = false := by simp [h1]
    have e2 : (x == 20) = false := by simp [h2]
    have e3 : (x == 21) = false := by simp [h3]
    clear h h1 h2 h3
    go_enter Tryz.func126, Tryz.ntmps126
    go_wp2
    go_ret
    exact ⟨by rw [H.out]; rfl, rfl⟩

set_option maxRecDepth 100000 in
theorem sKatValid_c (a : Option Addr) (cap : Nat) (l : List Int) (w : World) (hl : IntsAt w a l) (hlen : l.length ≤ 4194304) :
    Calls Tryz.prog 83 #[.slice a l.length cap] w fun e w' => e = .returned (.bool (kvB l)) ∧ w = w' := by
  obtain ⟨b, off, h1, h2⟩ := hl
  have H1 := Lib.hid h1
  have H2 := Lib.hid h2
  clear h1 h2
  go_enter Tryz.func83, Tryz.ntmps83
  go_wp2
  go_loop [3, 4] (fun mv i => Hid (∃ k m : Nat, k ≤ l.length ∧ i = .int .i64 k ∧ mv = .int .i64 m ∧ m ≤ k ∧ mnyK l k = some m)) (fun _ i => l.length - (intOf i).toNat)
  case atStart => exact Lib.hid ⟨0, 0, Nat.zero_le _, rfl, rfl, Nat.le_refl _, rfl⟩
  case round =>
    obtain ⟨k, m, hk, rfl, rfl, hmk, hm⟩ := hrel.out
    clear hrel
    by_cases hlt : k < l.length
    · obtain ⟨rfl, hb⟩ := H1.out (by omega)
      have hc := H2.out k hlt
      have hbad : Hid (BadK (nth l k) m → kvB l = false) := fun h => kvB_none (k := k + 1) (by omega) (mnyK_bad hm h)
      have hgood : Hid (¬ BadK (nth l k) m → mnyK l (k + 1) = some (m - (tkK (nth l k)).toNat + 1)) := fun h => mnyK_good hm h
      have hr := tkK_range (nth l k)
      have hcall : ∀ w0 : World, Calls Tryz.prog 140 #[.int .i64 (nth l k)] w0 fun e w' => e = .returned (.int .i64 (tkK (nth l k))) ∧ w0 = w' := fun w0 => l2Takes_c _ w0
      have HC := Lib.hid hcall
      have hbd : BadK (nth l k) m ↔ (nth l k < 0 ∨ 21 < nth l k ∨ (m : Int) < tkK (nth l k)) := Iff.rfl
      have HBD := Lib.hid hbd
      clear hm hcall hbd
      generalize hB : BadK (nth l k) m = Bad at *
      generalize tkK (nth l k) = T at *
      generalize nth l k = x at *
      by_cases hx : 0 ≤ x ∧ x ≤ 21
      · have hin : inB x 0 21 = true := by simp [inB]; omega
        by_cases hT : (m : Int) < T
        · have HV := Lib.hid (hbad.out (HBD.out.2 (.inr (.inr hT))))
          clear hbad hgood
          go_wp2_with (first | (go_at_call 61; refine (l1In_c _ _ _ _).mono ?_; rintro e w' ⟨rfl, rfl⟩) | (go_at_call 140; refine (HC.out _).mono ?_; rintro e w' ⟨rfl, rfl⟩) | fail)
          go_ret
          exact ⟨by rw [HV.out]; rfl, rfl⟩
        · have hg := Lib.hid (hgood.out fun h => by rcases HBD.out.1 h with h | h | h <;> omega)
          clear hbad hgood
          go_wp2_with (first | (go_at_call 61; refine (l1In_c _ _ _ _).mono ?_; rintro e w' ⟨rfl, rfl⟩) | (go_at_call 140; refine (HC.out _).mono ?_; rintro e w' ⟨rfl, rfl⟩) | fail)
          go_round
          case rel => exact Lib.hid ⟨k + 1, m - T.toNat + 1, by omega, by go_num, by congr 1; omega, by omega, hg.out⟩
          case measure => simp [intOf]; omega
      · have hin : inB x 0 21 = false := by simp [inB]; omega
        have HV := Lib.hid (hbad.out (HBD.out.2 (by omega)))
        clear hbad hgood
        go_wp2_with (first | (go_at_call 61; refine (l1In_c _ _ _ _).mono ?_; rintro e w' ⟨rfl, rfl⟩) | (go_at_call 140; refine (HC.out _).mono ?_; rintro e w' ⟨rfl, rfl⟩) | fail)
        go_ret
        exact ⟨by rw [HV.out]; rfl, rfl⟩
    · obtain rfl : k = l.length := by omega
      by_cases hn : 1 ≤ l.length ∧ l.length ≤ 40
      · have hv := Lib.hid (kvB_end hn hm)
        have hin : inB (l.length : Int) 1 40 = true := by simp [inB]; omega
        have hq : ((m : Int) == 1) = (m == 1) := by rw [Bool.eq_iff_iff]; simp; omega
        clear hm hn
        go_wp2_with (go_at_call 61; refine (l1In_c _ _ _ _).mono ?_; rintro e w' ⟨rfl, rfl⟩)
        go_ret
        exact ⟨by rw [hv.out, ← hq]; rfl, rfl⟩
      · have hv := Lib.hid (kvB_out hn)
        have hin : inB (l.length : Int) 1 40 = false := by simp [inB]; omega
        clear hm hn
        go_wp2_with (go_at_call 61; refine (l1In_c _ _ _ _).mono ?_; rintro e w' ⟨rfl, rfl⟩)
        go_ret
        exact ⟨by rw [hv.out]; rfl, rfl⟩
set_option maxRecDepth 100000 in
theorem iKatValid_c (a : Option Addr) (cap : Nat) (l : List Int) (w : World) (hl : IntsAt w a l) (hlen : l.length ≤ 4194304) :
    Calls Tryz.prog 67 #[.slice a l.length cap] w fun e w' => e = .returned (.bool (kvB l)) ∧ w = w' := by
  by_cases hn : 1 ≤ l.length ∧ l.length ≤ 40
  · have hn1 : 1 ≤ l.length := hn.1
    have hn2 : l.length ≤ 40 := hn.2
    have HN := Lib.hid hn
    obtain ⟨b, off, h1, h2⟩ := hl
    obtain ⟨rfl, hb⟩ := h1 (by omega)
    have H2 := Lib.hid h2
    clear h1 h2 hn
    go_enter Tryz.func67, Tryz.ntmps67
    go_wp2
    go_loop [3, 16] (fun mv i => Hid (∃ k m : Nat, k ≤ l.length ∧ i = .int .i64 k ∧ mv = .int .i64 m ∧ m ≤ k ∧ mnyK l k = some m)) (fun _ i => l.length - (intOf i).toNat)
    case atStart => exact Lib.hid ⟨0, 0, Nat.zero_le _, rfl, rfl, Nat.le_refl _, rfl⟩
    case round =>
      obtain ⟨k, m, hk, rfl, rfl, hmk, hm⟩ := hrel.out
      clear hrel
      by_cases hlt : k < l.length
      · have hc := H2.out k hlt
        have hbad : Hid (BadK (nth l k) m → kvB l = false) := fun h => kvB_none (k := k + 1) (by omega) (mnyK_bad hm h)
        have hgood : Hid (¬ BadK (nth l k) m → mnyK l (k + 1) = some (m - (tkK (nth l k)).toNat + 1)) := fun h => mnyK_good hm h
        have hr := tkK_range (nth l k)
        have hcall : ∀ w0 : World, Calls Tryz.prog 126 #[.int .i64 (nth l k)] w0 fun e w' => e = .returned (.int .i64 (tkK (nth l k))) ∧ w0 = w' := fun w0 => takes_c _ w0
        have HC := Lib.hid hcall
        have hbd : BadK (nth l k) m ↔ (nth l k < 0 ∨ 21 < nth l k ∨ (m : Int) < tkK (nth l k)) := Iff.rfl
        have HBD := Lib.hid hbd
        clear hm hcall hbd
        generalize hB : BadK (nth l k) m = Bad at *
        generalize tkK (nth l k) = T at *
        generalize nth l k = x at *
        by_cases hx : x < 0
        · have HV := Lib.hid (hbad.out (HBD.out.2 (.inl hx)))
          clear hbad hgood
          go_wp2_with (first | (go_at_call 126; refine (HC.out _).mono ?_; rintro e w' ⟨rfl, rfl⟩) | fail)
          go_ret
          exact ⟨by rw [HV.out]; rfl, rfl⟩
        · by_cases hx2 : 21 < x
          · have HV := Lib.hid (hbad.out (HBD.out.2 (.inr (.inl hx2))))
            clear hbad hgood
            go_wp2_with (first | (go_at_call 126; refine (HC.out _).mono ?_; rintro e w' ⟨rfl, rfl⟩) | fail)
            go_ret
            exact ⟨by rw [HV.out]; rfl, rfl⟩
          · by_cases hT : (m : Int) < T
            · have HV := Lib.hid (hbad.out (HBD.out.2 (.inr (.inr hT))))
              clear hbad hgood
              go_wp2_with (first | (go_at_call 126; refine (HC.out _).mono ?_; rintro e w' ⟨rfl, rfl⟩) | fail)
              go_ret
              exact ⟨by rw [HV.out]; rfl, rfl⟩
            · have hg := Lib.hid (hgood.out fun h => by rcases HBD.out.1 h with h | h | h <;> omega)
              clear hbad hgood
              go_wp2_with (first | (go_at_call 126; refine (HC.out _).mono ?_; rintro e w' ⟨rfl, rfl⟩) | fail)
              go_round
              case rel => exact Lib.hid ⟨k + 1, m - T.toNat + 1, by omega, by go_num, by congr 1; omega, by omega, hg.out⟩
              case measure => simp [intOf]; omega
      · obtain rfl : k = l.length := by omega
        have hv := Lib.hid (kvB_end HN.out hm)
        have hq : ((m : Int) == 1) = (m == 1) := by rw [Bool.eq_iff_iff]; simp; omega
        clear hm
        go_wp2
        go_ret
        exact ⟨by rw [hv.out, ← hq]; rfl, rfl⟩
  · have hv := Lib.hid (kvB_out hn)
    by_cases h1 : 1 ≤ l.length
    all_goals
      clear hl
      go_enter Tryz.func67, Tryz.ntmps67
      go_wp2
      go_ret
      exact ⟨by rw [hv.out]; rfl, rfl⟩
theorem l2Span_c (a : Option Addr) (cap : Nat) (l : List Int) (t : Kt) (o last : Nat) (w : World) (hl : IntsAt w a l) (hg : t.Good) (hs : SegK l o t.words) (hn : o + t.words.length = last + 1) (hlt : last < l.length) (hlen : l.length ≤ 4194304) :
    Calls Tryz.prog 167 #[.slice a l.length cap, .int .i64 last] w fun e w' => e = .returned (.int .i64 o) ∧ w = w' := by
  obtain ⟨b, off, h1, h2⟩ := hl
  obtain ⟨rfl, hb⟩ := h1 (by omega)
  have H2 := Lib.hid h2
  have hpos := t.words_pos
  have HN := Lib.hid (needK_seg l t hg o hs 1)
  rw [hn] at HN
  clear h1 h2 hg hs
  go_enter Tryz.func167, Tryz.ntmps167
  go_wp2
  go_loop [5, 6] (fun nv av => Hid (∃ j : Nat, j ≤ t.words.length ∧ av = .int .i64 ((last + 1 - j : Nat) : Int) ∧ nv = .int .i64 (needK l (last + 1) 1 j))) (fun _ av => (intOf av).toNat)
  case atStart => exact Lib.hid ⟨0, Nat.zero_le _, by simp, rfl⟩
  case round =>
    obtain ⟨j, hj, rfl, rfl⟩ := hrel.out
    clear hrel
    by_cases hlt2 : j < t.words.length
    · have hge := HN.out.1 j hlt2
      have hle := (needK_le l (last + 1) 1 (by decide) j).2
      obtain ⟨p, hp⟩ : ∃ p, last + 1 - j = p + 1 := ⟨last - j, by omega⟩
      have hstep : Hid (needK l (last + 1) 1 (j + 1) = needK l (last + 1) 1 j - 1 + tkK (nth l p)) := by
        unfold Hid; simp only [needK]; rw [show last + 1 - 1 - j = p by omega]
      have hc := H2.out p (by omega)
      have hr := tkK_range (nth l p)
      have hcall : ∀ w0 : World, Calls Tryz.prog 140 #[.int .i64 (nth l p)] w0 fun e w' => e = .returned (.int .i64 (tkK (nth l p))) ∧ w0 = w' := fun w0 => l2Takes_c _ w0
      have HC := Lib.hid hcall
      have hpl : p < l.length := by omega
      rw [hp]
      clear hcall
      generalize needK l (last + 1) 1 j = N at *
      generalize tkK (nth l p) = T at *
      generalize nth l p = x at *
      go_wp2_with (first | (go_at_call 140; refine (HC.out _).mono ?_; rintro e w' ⟨rfl, rfl⟩) | fail)
      go_round
      case rel => exact Lib.hid ⟨j + 1, by omega, by congr 1; omega, by rw [hstep.out]⟩
      case measure => simp [intOf]
    · obtain rfl : j = t.words.length := by omega
      have h0 := HN.out.2
      have ho : ((last + 1 - t.words.length : Nat) : Int) = o := by omega
      rw [h0, ho]
      go_wp2
      go_ret
      exact ⟨rfl, rfl⟩
/-- Both halves of an expression that ends with a step that takes two. -/
theorem l2Halves_c (b : Nat) (off cap : Nat) (l : List Int) (t : Kt) (o : Nat) (w : World) (hl : IntsAt w (some ⟨b, off, none⟩) l) (hg : t.Good) (hs : SegK l o t.words) (hn : o + t.words.length + 1 = l.length) (hcap : l.length ≤ cap) (hlen : l.length ≤ 4194304) :
    Calls Tryz.prog 143 #[.slice (some ⟨b, off, none⟩) l.length cap] w fun e w' => e = .returned (.tuple #[.slice (some ⟨b, off, none⟩) o cap, .slice (some ⟨b, off + o, none⟩) t.words.length (cap - o)]) ∧ w' = w.drew := by
  have hpos := t.words_pos
  have hw1 : IntKind.i64.wrap ((l.length : Int) - 1) = ((l.length - 1 : Nat) : Int) := by rw [IntWalk.i64_in _ (by omega)]; omega
  have hw2 : IntKind.i64.wrap (((l.length - 1 : Nat) : Int) - 1) = ((l.length - 2 : Nat) : Int) := by rw [IntWalk.i64_in _ (by omega)]; omega
  have hc := l2Span_c (some ⟨b, off, none⟩) cap l t o (l.length - 2) w hl hg hs (by omega) (by omega) hlen
  have HC := Lib.hid hc
  clear hl hg hs hc
  obtain ⟨p, hp⟩ : ∃ p, l.length - 1 = p := ⟨_, rfl⟩
  have hop : o ≤ p := by omega
  have hpc : p ≤ cap := by omega
  have hoc : o ≤ cap := by omega
  have hco : ¬ cap - o = 0 := by omega
  have hpo : p - o = t.words.length := by omega
  rw [hp] at hw1 hw2
  go_enter Tryz.func143, Tryz.ntmps143
  go_wp2_with (first | (go_at_call 167; refine HC.out.mono ?_; rintro e w' ⟨rfl, rfl⟩) | fail)
  go_region
  go_wp2
  go_ret2
  exact ⟨rfl, rfl⟩
end Go.Proofs.YtlaamecfknkmlaaGreat
namespace Go.Proofs.YtlaamecfknkmlaaGreat
set_option linter.unusedVariables false
open Go.RowKit Go.Kt

/-- A model is valid. -/
def mvB (st p q : Int) (ll : List (List Int)) : Bool := decide (1 ≤ st ∧ st ≤ 5 ∧ (0 ≤ p ∧ p < 2 ^ st.toNat) ∧ (0 ≤ q ∧ q < 2 ^ st.toNat) ∧ ll.length = 3 ∧ ∀ r ∈ ll, rvB st r = true)
/-- A model as a value. -/
abbrev modelV (st p q : Int) (a : Option Addr) (n cap : Nat) : Value := .agg #[.int .i64 st, .int .i64 p, .int .i64 q, .slice a n cap]
/-- What slices.IndexFunc answers over rows. -/
def findR (p : List Int → Bool) (l : List (List Int)) : Int := if l.any p then ((l.findIdx p : Nat) : Int) else -1
theorem findR_none (p : List Int → Bool) (l : List (List Int)) (h : ∀ j, j < l.length → p (rowI l j) = false) : findR p l = -1 := by
  unfold findR
  rw [if_neg]
  rw [List.any_eq_true]
  rintro ⟨x, hx, hp⟩
  obtain ⟨j, hj, rfl⟩ := List.getElem_of_mem hx
  have := h j hj
  rw [rowI_getElem l j hj] at this
  rw [this] at hp; cases hp
theorem findR_at (p : List Int → Bool) (l : List (List Int)) (k : Nat) (hk : k < l.length) (h : ∀ j, j < k → p (rowI l j) = false) (hp : p (rowI l k) = true) : findR p l = k := by
  unfold findR
  rw [rowI_getElem l k hk] at hp
  rw [if_pos (List.any_eq_true.2 ⟨_, List.getElem_mem hk, hp⟩)]
  congr 1
  rw [List.findIdx_eq hk]
  refine ⟨hp, fun j hj => ?_⟩
  have := h j hj
  rwa [rowI_getElem l j (by omega)] at this
theorem findR_nonneg (p : List Int → Bool) (l : List (List Int)) : decide (0 ≤ findR p l) = l.any p := by
  unfold findR
  cases l.any p <;> simp

theorem indexFuncR_c (a : Option Addr) (cap : Nat) (l : List (List Int)) (cv : Value) (p : List Int → Bool) (w : World) (hl : RowsAt w a l) (hlen : l.length ≤ 4611686018427387904)
    (hf : ∀ ai ci r w1, r ∈ l → Ext w w1 → IntsAt w1 ai r → Calls Tryz.prog 138 #[.slice ai r.length ci, cv] w1 fun e w' => e = .returned (.bool (p r)) ∧ Ext w1 w') :
    Calls Tryz.prog 134 #[.slice a l.length cap, .func (.func 138) #[] #[cv]] w fun e w' => e = .returned (.int .i64 (findR p l)) ∧ Ext w w' := by
  obtain ⟨b, off, h1, h2⟩ := hl
  have H1 := Lib.hid h1
  have H2 := Lib.hid h2
  have HF := Lib.hid hf
  clear h1 h2 hf
  go_enter Tryz.func134, Tryz.ntmps134
  go_wp2
  go_loopw [8] (fun i wr => Hid (∃ k : Nat, k ≤ l.length ∧ i = .int .i64 k ∧ (∀ j, j < k → p (rowI l j) = false) ∧ Ext w wr)) (fun i _ => l.length - (intOf i).toNat)
  case atStart => exact Lib.hid ⟨0, Nat.zero_le _, rfl, fun j hj => absurd hj (Nat.not_lt_zero _), Ext.refl _⟩
  case round =>
    obtain ⟨k, hk, rfl, hno, hx⟩ := hrel.out
    clear hrel
    have hno' := Lib.hid hno
    clear hno
    by_cases hlt : k < l.length
    · obtain ⟨rfl, hb⟩ := H1.out (by omega)
      obtain ⟨ai, ci, hcw, hi⟩ := H2.out k hlt
      have hc := hx.cell' hcw hb
      have hmem := rowI_mem l k hlt
      cases hp : p (rowI l k)
      all_goals
        have hp' := Lib.hid hp
        have hcall := Lib.hid (HF.out ai ci (rowI l k) wr hmem hx (hi.ext hx))
        rw [hp] at hcall
        clear hp hmem hcw hi
        go_wp2_with fail
        refine (hcall.out).mono ?_
        rintro e w1 ⟨rfl, hx1⟩
        go_wp2
      · go_roundw
        case rel => exact Lib.hid ⟨k + 1, by omega, by go_num, upto_succ hno'.out hp'.out, hx.trans hx1⟩
        case measure => simp [intOf]; omega
      · go_ret
        exact ⟨by rw [findR_at p l k hlt hno'.out hp'.out]; rfl, hx.trans hx1⟩
    · obtain rfl : k = l.length := by omega
      go_wp2
      go_ret
      exact ⟨by rw [findR_none p l hno'.out]; rfl, hx⟩

theorem containsFuncR_c (a : Option Addr) (cap : Nat) (l : List (List Int)) (cv : Value) (p : List Int → Bool) (w : World) (hl : RowsAt w a l) (hlen : l.length ≤ 4611686018427387904)
    (hf : ∀ ai ci r w1, r ∈ l → Ext w w1 → IntsAt w1 ai r → Calls Tryz.prog 138 #[.slice ai r.length ci, cv] w1 fun e w' => e = .returned (.bool (p r)) ∧ Ext w1 w') :
    Calls Tryz.prog 72 #[.slice a l.length cap, .func (.func 138) #[] #[cv]] w fun e w' => e = .returned (.bool (l.any p)) ∧ Ext w w' := by
  have HC := Lib.hid (indexFuncR_c a cap l cv p w hl hlen hf)
  clear hf hl
  go_enter Tryz.func72, Tryz.ntmps72
  go_wp2_with fail
  refine HC.out.mono ?_
  rintro e w1 ⟨rfl, hx⟩
  go_wp2
  go_ret
  exact ⟨by rw [← findR_nonneg]; rfl, hx⟩

/-- Rows that are not valid for so many states. -/
def badRows (st : Int) (r : List Int) : Bool := !rvB st r

theorem mvClosure_c (b : Nat) (st : Int) (ai : Option Addr) (ci : Nat) (r : List Int) (w : World) (hr : r.length ≤ 4611686018427387904) (hi : IntsAt w ai r) (hb : w.cell? ⟨b, 0, none⟩ = some (.int .i64 st)) :
    Calls Tryz.prog 138 #[.slice ai r.length ci, .pointer (some ⟨b, 0, none⟩)] w fun e w' => e = .returned (.bool (badRows st r)) ∧ Ext w w' := by
  go_enter Tryz.func138, Tryz.ntmps138
  go_wp2_with (go_at_call 34; refine (iRowsValid_c _ _ _ _ _ hi hr).mono ?_; rintro e w1 ⟨rfl, hx⟩)
  go_ret
  exact ⟨rfl, hx⟩

theorem mv_any (st : Int) (ll : List (List Int)) : (!ll.any (badRows st)) = true ↔ ∀ r ∈ ll, rvB st r = true := by
  simp [badRows]
theorem mvB_of (s : Nat) (p q : Int) (ll : List (List Int)) (h1 : 1 ≤ s) (h2 : s ≤ 5) : mvB s p q ll = (setB s p && (setB s q && (decide (ll.length = 3) && !ll.any (badRows s)))) := by
  rw [Bool.eq_iff_iff]
  simp only [mvB, setB, Bool.and_eq_true, decide_eq_true_eq, mv_any, Int.toNat_natCast]
  constructor
  · rintro ⟨_, _, a, b, c, d⟩; exact ⟨a, b, c, d⟩
  · rintro ⟨a, b, c, d⟩; exact ⟨by omega, by omega, a, b, c, d⟩
theorem mvB_out (st p q : Int) (ll : List (List Int)) (h : ¬ (1 ≤ st ∧ st ≤ 5)) : mvB st p q ll = false := by
  simp [mvB]; omega

theorem iModelValid_c (st p q : Int) (a : Option Addr) (cap : Nat) (ll : List (List Int)) (w : World) (hr : RowsAt w a ll) (hlen : ll.length ≤ 4194304) (hm : ∀ i, i < ll.length → (rowI ll i).length ≤ 4194304) :
    Calls Tryz.prog 79 #[modelV st p q a ll.length cap] w fun e w' => e = .returned (.bool (mvB st p q ll)) ∧ Ext w w' := by
  have HR := Lib.hid hr
  have HM := Lib.hid hm
  clear hr hm
  by_cases h1 : 1 ≤ st ∧ st ≤ 5
  · obtain ⟨s, rfl⟩ := Int.eq_ofNat_of_zero_le (show 0 ≤ st by omega)
    have hd : decide (1 ≤ (s : Int) ∧ (s : Int) ≤ 5) = true := by simp; omega
    have HV := Lib.hid (mvB_of s p q ll (by omega) (by omega))
    have hs5 : s ≤ 5 := by omega
    cases hp : setB s p
    · go_enter Tryz.func79, Tryz.ntmps79
      go_wp2_with fail
      refine (hasStates_c _ _).mono ?_
      rintro e w1 ⟨rfl, rfl⟩
      go_wp2_with fail
      refine (isSet_c _ _ _ hs5).mono ?_
      rintro e w1 ⟨rfl, rfl⟩
      go_wp2
      go_ret
      exact ⟨by rw [HV.out, hp]; rfl, by (repeat (first | exact Ext.refl _ | assumption | refine Ext.alloc ?_ _ | refine Ext.drewN ?_ _ | refine Ext.drew ?_))⟩
    · cases hq : setB s q
      · go_enter Tryz.func79, Tryz.ntmps79
        go_wp2_with fail
        refine (hasStates_c _ _).mono ?_
        rintro e w1 ⟨rfl, rfl⟩
        go_wp2_with fail
        refine (isSet_c _ _ _ hs5).mono ?_
        rintro e w1 ⟨rfl, rfl⟩
        go_wp2_with fail
        refine (isSet_c _ _ _ hs5).mono ?_
        rintro e w1 ⟨rfl, rfl⟩
        go_wp2
        go_ret
        exact ⟨by rw [HV.out, hp, hq]; rfl, by (repeat (first | exact Ext.refl _ | assumption | refine Ext.alloc ?_ _ | refine Ext.drewN ?_ _ | refine Ext.drew ?_))⟩
      · by_cases h3 : ll.length = 3
        · have hne : (((ll.length : Nat) : Int) != 3) = false := by simp [h3]
          have H3 := Lib.hid h3
          clear h3
          go_enter Tryz.func79, Tryz.ntmps79
          go_wp2_with fail
          refine (hasStates_c _ _).mono ?_
          rintro e w1 ⟨rfl, rfl⟩
          go_wp2_with fail
          refine (isSet_c _ _ _ hs5).mono ?_
          rintro e w1 ⟨rfl, rfl⟩
          go_wp2_with fail
          refine (isSet_c _ _ _ hs5).mono ?_
          rintro e w1 ⟨rfl, rfl⟩
          go_wp2_with fail
          refine (containsFuncR_c a cap ll _ (badRows s) _ (HR.out.ext (by (repeat (first | exact Ext.refl _ | assumption | refine Ext.alloc ?_ _ | refine Ext.drewN ?_ _ | refine Ext.drew ?_)))) (by omega) ?_).mono ?_
          · intro ai ci r w1 hmem hx hi
            refine (mvClosure_c w.heap.size s ai ci r w1 ?_ hi ?_)
            · obtain ⟨j, hj, rfl⟩ := List.getElem_of_mem hmem
              have := HM.out j hj
              rw [rowI_getElem ll j hj] at this
              omega
            · exact hx.cell' (by simp [go_sem]) (by simp)
          · rintro e w1 ⟨rfl, hx⟩
            have hx2 := Ext.trans (by (repeat (first | exact Ext.refl _ | assumption | refine Ext.alloc ?_ _ | refine Ext.drewN ?_ _ | refine Ext.drew ?_)) : Ext w _) hx
            go_wp2
            go_ret
            exact ⟨by rw [HV.out, hp, hq, H3.out]; simp, hx2⟩
        · have hne : (((ll.length : Nat) : Int) != 3) = true := by simp; omega
          go_enter Tryz.func79, Tryz.ntmps79
          go_wp2_with fail
          refine (hasStates_c _ _).mono ?_
          rintro e w1 ⟨rfl, rfl⟩
          go_wp2_with fail
          refine (isSet_c _ _ _ hs5).mono ?_
          rintro e w1 ⟨rfl, rfl⟩
          go_wp2_with fail
          refine (isSet_c _ _ _ hs5).mono ?_
          rintro e w1 ⟨rfl, rfl⟩
          go_wp2
          go_ret
          exact ⟨by rw [HV.out, hp, hq]; simp [h3], by (repeat (first | exact Ext.refl _ | assumption | refine Ext.alloc ?_ _ | refine Ext.drewN ?_ _ | refine Ext.drew ?_))⟩
  · have hd : decide (1 ≤ st ∧ st ≤ 5) = false := by simpa using h1
    have HV := Lib.hid (mvB_out st p q ll h1)
    clear h1
    go_enter Tryz.func79, Tryz.ntmps79
    go_wp2_with fail
    refine (hasStates_c _ _).mono ?_
    rintro e w1 ⟨rfl, rfl⟩
    go_wp2
    go_ret
    exact ⟨by rw [HV.out]; rfl, by (repeat (first | exact Ext.refl _ | assumption | refine Ext.alloc ?_ _ | refine Ext.drewN ?_ _ | refine Ext.drew ?_))⟩
end Go.Proofs.YtlaamecfknkmlaaGreat
namespace Go.Proofs.YtlaamecfknkmlaaGreat
set_option linter.unusedVariables false
open Go.RowKit Go.Kt

theorem mvB_not (st p q : Int) (ll : List (List Int)) (k : Nat) (hk : k < ll.length) (h : rvB st (rowI ll k) = false) : mvB st p q ll = false := by
  simp only [mvB, decide_eq_false_iff_not]
  rintro ⟨_, _, _, _, _, d⟩
  rw [d _ (rowI_mem ll k hk)] at h
  cases h
theorem mvB_all (st p q : Int) (ll : List (List Int)) (h : ∀ j, j < ll.length → rvB st (rowI ll j) = true) :
    mvB st p q ll = (inB st 1 5 && (inB p 0 (2 ^ st.toNat - 1) && (inB q 0 (2 ^ st.toNat - 1) && ((ll.length : Int) == 3)))) := by
  rw [Bool.eq_iff_iff]
  simp only [mvB, inB, decide_eq_true_eq, Bool.and_eq_true, beq_iff_eq]
  constructor
  · rintro ⟨a, b, c, d, e, _⟩; exact ⟨⟨a, b⟩, ⟨c.1, by omega⟩, ⟨d.1, by omega⟩, by omega⟩
  · rintro ⟨⟨a, b⟩, c, d, e⟩
    refine ⟨a, b, ⟨c.1, by omega⟩, ⟨d.1, by omega⟩, by omega, fun r hr => ?_⟩
    obtain ⟨j, hj, rfl⟩ := List.getElem_of_mem hr
    have := h j hj
    rwa [rowI_getElem ll j hj] at this

theorem sModelValid_c (st p q : Int) (a : Option Addr) (cap : Nat) (ll : List (List Int)) (w : World) (hr : RowsAt w a ll) (hlen : ll.length ≤ 4194304) (hm : ∀ i, i < ll.length → (rowI ll i).length ≤ 4194304) :
    Calls Tryz.prog 82 #[modelV st p q a ll.length cap] w fun e w' => e = .returned (.bool (mvB st p q ll)) ∧ Ext w w' := by
  have HR := Lib.hid hr
  obtain ⟨b1, o1, p1, q1⟩ := hr
  have P1 := Lib.hid p1
  have Q1 := Lib.hid q1
  have HM := Lib.hid hm
  clear p1 q1 hm
  go_enter Tryz.func82, Tryz.ntmps82
  go_wp2
  go_loopw [3] (fun i wr => Hid (∃ k : Nat, k ≤ ll.length ∧ i = .int .i64 k ∧ (∀ j, j < k → rvB st (rowI ll j) = true) ∧ ∃ m, wr = (w.alloc (.cells #[.int .i64 st, .int .i64 p, .int .i64 q, .slice a ll.length cap] 37)).drewN m)) (fun i _ => ll.length - (intOf i).toNat)
  case atStart => exact Lib.hid ⟨0, Nat.zero_le _, rfl, fun j hj => absurd hj (Nat.not_lt_zero _), 0, rfl⟩
  case round =>
    obtain ⟨k, hk, rfl, hno, m, rfl⟩ := hrel.out
    have HN := Lib.hid hno
    clear hrel hno
    by_cases hlt : k < ll.length
    · obtain ⟨rfl, hb⟩ := P1.out (by omega)
      obtain ⟨ai, ci, hc, hi⟩ := Q1.out k hlt
      have hml := HM.out k hlt
      have hi2 := hi.ext (Ext.alloc (Ext.refl w) (.cells #[.int .i64 st, .int .i64 p, .int .i64 q, .slice (some ⟨b1, o1, none⟩) ll.length cap] 37))
      have hne : ¬ b1 = w.heap.size := by omega
      clear hi
      cases hv : rvB st (rowI ll k)
      all_goals
        go_wp2
        go_quiet ((go_at_call 139; exact quiet_drawn_add (sRowsValid_c _ _ _ _ _ (hi2.ext ((Ext.refl _).drewN _)) (by omega))))
        go_wp2
      · go_ret
        exact ⟨by rw [mvB_not st p q ll k hlt hv]; rfl, by (repeat (first | exact Ext.refl _ | assumption | refine Ext.alloc ?_ _ | refine Ext.drewN ?_ _ | refine Ext.drew ?_))⟩
      · go_roundw
        case rel => exact Lib.hid ⟨k + 1, by omega, by go_num, upto_succ HN.out hv, by first | exact ⟨_, rfl⟩ | exact drawn2 _ _ _⟩
        case measure => simp [intOf]; omega
    · obtain rfl : k = ll.length := by omega
      have HA := Lib.hid (mvB_all st p q ll HN.out)
      by_cases hv : 1 ≤ st ∧ st ≤ 5
      · obtain ⟨s, rfl⟩ := Int.eq_ofNat_of_zero_le (show 0 ≤ st by omega)
        have hpl := pow_le_32 s (by omega)
        have hpp := pow_pos' s
        have h1 : inB (s : Int) 1 5 = true := by simp [inB]; omega
        obtain ⟨hv1, hv2⟩ := hv
        cases h2 : inB p 0 (2 ^ s - 1)
        · go_wp2_with (go_at_call 61; refine (l1In_c _ _ _ _).mono ?_; rintro e w' ⟨rfl, rfl⟩)
          go_ret
          exact ⟨by rw [HA.out, h1, Int.toNat_natCast, h2]; rfl, by (repeat (first | exact Ext.refl _ | assumption | refine Ext.alloc ?_ _ | refine Ext.drewN ?_ _ | refine Ext.drew ?_))⟩
        · cases h3 : inB q 0 (2 ^ s - 1)
          · go_wp2_with (go_at_call 61; refine (l1In_c _ _ _ _).mono ?_; rintro e w' ⟨rfl, rfl⟩)
            go_ret
            exact ⟨by rw [HA.out, h1, Int.toNat_natCast, h2, h3]; rfl, by (repeat (first | exact Ext.refl _ | assumption | refine Ext.alloc ?_ _ | refine Ext.drewN ?_ _ | refine Ext.drew ?_))⟩
          · go_wp2_with (go_at_call 61; refine (l1In_c _ _ _ _).mono ?_; rintro e w' ⟨rfl, rfl⟩)
            go_ret
            exact ⟨by rw [HA.out, h1, Int.toNat_natCast, h2, h3]; rfl, by (repeat (first | exact Ext.refl _ | assumption | refine Ext.alloc ?_ _ | refine Ext.drewN ?_ _ | refine Ext.drew ?_))⟩
      · have h1 : inB st 1 5 = false := by simp [inB]; omega
        have hv3 : st < 0 ∨ st = 0 ∨ 6 ≤ st := by omega
        clear hv
        rcases hv3 with hv3 | rfl | hv3
        all_goals
          go_wp2_with (go_at_call 61; refine (l1In_c _ _ _ _).mono ?_; rintro e w' ⟨rfl, rfl⟩)
          go_ret
          exact ⟨by rw [HA.out, h1]; rfl, by (repeat (first | exact Ext.refl _ | assumption | refine Ext.alloc ?_ _ | refine Ext.drewN ?_ _ | refine Ext.drew ?_))⟩

theorem atom_c (st : Int) (p q : Nat) (av : Value) (s : Nat) (w : World) (hp : p < 4294967296) (hq : q < 4294967296) (hs : s < 60) :
    Calls Tryz.prog 149 #[.agg #[.int .i64 st, .int .i64 p, .int .i64 q, av], .int .i64 s] w fun e w' => e = .returned (.int .i64 (atomI p q s : Nat)) ∧ Ext w w' := by
  have hbp := i64_bit p s (by omega)
  have hbq := i64_bit q s (by omega)
  cases h1 : p.testBit s
  all_goals cases h2 : q.testBit s
  all_goals
    have hr : atomI p q s = (p.testBit s).toNat + 2 * (q.testBit s).toNat := rfl
    have HR := Lib.hid hr
    rw [h1] at hbp
    rw [h2] at hbq
    simp only [Bool.toNat_false, Bool.toNat_true] at hbp hbq
    clear hr
    go_enter Tryz.func149, Tryz.ntmps149
    go_wp2
    go_quiet (fail)
    go_wp2
    go_ret
    exact ⟨by rw [HR.out, h1, h2]; rfl, by (repeat (first | exact Ext.refl _ | assumption | refine Ext.alloc ?_ _ | refine Ext.drewN ?_ _ | refine Ext.drew ?_))⟩


theorem mvB_bounds {st p q : Int} {ll : List (List Int)} (h : mvB st p q ll = true) :
    ∃ (s P Q : Nat), st = s ∧ p = P ∧ q = Q ∧ 1 ≤ s ∧ s ≤ 5 ∧ P < 2 ^ s ∧ Q < 2 ^ s ∧ P < 4294967296 ∧ Q < 4294967296 ∧ ll.length = 3 ∧ ∀ i, i < 3 → rvB s (rowI ll i) = true := by
  simp only [mvB, decide_eq_true_eq] at h
  obtain ⟨h1, h2, ⟨h3, h4⟩, ⟨h5, h6⟩, h7, h8⟩ := h
  obtain ⟨s, rfl⟩ := Int.eq_ofNat_of_zero_le (show 0 ≤ st by omega)
  obtain ⟨P, rfl⟩ := Int.eq_ofNat_of_zero_le h3
  obtain ⟨Q, rfl⟩ := Int.eq_ofNat_of_zero_le h5
  rw [Int.toNat_natCast] at h4 h6
  have h4' : P < 2 ^ s := by exact_mod_cast h4
  have h6' : Q < 2 ^ s := by exact_mod_cast h6
  have hl : (2 : Nat) ^ s ≤ 2 ^ 5 := Nat.pow_le_pow_right (by decide) (by omega)
  exact ⟨s, P, Q, rfl, rfl, rfl, by omega, by omega, h4', h6', by omega, by omega, h7, fun i hi => h8 _ (rowI_mem ll i (by omega))⟩

/-- AtomOf, TestStates. -/
def atomF (st p q : Int) (ll : List (List Int)) (s : Int) : Int := if mvB st p q ll && inB s 0 (st - 1) then ((atomI p q s.toNat : Nat) : Int) else -1
def testF (st p q : Int) (ll : List (List Int)) (t : Int) : Int := if mvB st p q ll && inB t 0 15 then ((tsTo p q t.toNat st.toNat : Nat) : Int) else -1


theorem sAtomOf_c (st p q : Int) (a : Option Addr) (cap : Nat) (ll : List (List Int)) (s : Int) (w : World) (hr : RowsAt w a ll) (hlen : ll.length ≤ 4194304) (hm : ∀ i, i < ll.length → (rowI ll i).length ≤ 4194304) :
    Calls Tryz.prog 166 #[modelV st p q a ll.length cap, .int .i64 s] w fun e w' => e = .returned (.int .i64 (atomF st p q ll s)) ∧ Ext w w' := by
  have HR := Lib.hid hr
  have HM := Lib.hid hm
  clear hr hm
  cases hv : mvB st p q ll
  · have HF : Hid (atomF st p q ll s = -1) := by unfold Hid atomF; rw [hv]; rfl
    go_enter Tryz.func166, Tryz.ntmps166
    go_wp2_with fail
    refine (sModelValid_c st p q a cap ll _ (HR.out.ext (by (repeat (first | exact Ext.refl _ | assumption | refine Ext.alloc ?_ _ | refine Ext.drewN ?_ _ | refine Ext.drew ?_)))) hlen HM.out).mono ?_
    rintro e w1 ⟨rfl, hx⟩
    have hx2 := Ext.trans (by (repeat (first | exact Ext.refl _ | assumption | refine Ext.alloc ?_ _ | refine Ext.drewN ?_ _ | refine Ext.drew ?_)) : Ext w _) hx
    clear hx
    go_wp2
    go_ret
    exact ⟨by rw [HF.out]; rfl, hx2⟩
  · obtain ⟨sn, P, Q, rfl, rfl, rfl, b1, b2, b3, b4, b5, b6, -, -⟩ := mvB_bounds hv
    cases hs : inB s 0 ((sn : Int) - 1)
    · have HF : Hid (atomF sn P Q ll s = -1) := by unfold Hid atomF; rw [hv, hs]; rfl
      go_enter Tryz.func166, Tryz.ntmps166
      go_wp2_with fail
      refine (sModelValid_c _ _ _ a cap ll _ (HR.out.ext (by (repeat (first | exact Ext.refl _ | assumption | refine Ext.alloc ?_ _ | refine Ext.drewN ?_ _ | refine Ext.drew ?_)))) hlen HM.out).mono ?_
      rintro e w1 ⟨rfl, hx⟩
      have hx2 := Ext.trans (by (repeat (first | exact Ext.refl _ | assumption | refine Ext.alloc ?_ _ | refine Ext.drewN ?_ _ | refine Ext.drew ?_)) : Ext w _) hx
      obtain ⟨hc, hf⟩ := hx.cells
      clear hx
      go_wp2_with (go_at_call 61; refine (l1In_c _ _ _ _).mono ?_; rintro e w' ⟨rfl, rfl⟩)
      go_ret
      exact ⟨by rw [HF.out]; rfl, hx2⟩
    · have hsb : 0 ≤ s ∧ s ≤ (sn : Int) - 1 := by simpa [inB] using hs
      obtain ⟨S, rfl⟩ := Int.eq_ofNat_of_zero_le hsb.1
      have HF : Hid (atomF sn P Q ll S = ((atomI P Q S : Nat) : Int)) := by unfold Hid atomF; rw [hv, hs, Int.toNat_natCast]; rfl
      have hat : Hid (atomI P Q S = (P.testBit S).toNat + 2 * (Q.testBit S).toNat) := rfl
      cases hP : P.testBit S
      all_goals cases hQ : Q.testBit S
      all_goals
        go_enter Tryz.func166, Tryz.ntmps166
        go_wp2_with fail
        refine (sModelValid_c _ _ _ a cap ll _ (HR.out.ext (by (repeat (first | exact Ext.refl _ | assumption | refine Ext.alloc ?_ _ | refine Ext.drewN ?_ _ | refine Ext.drew ?_)))) hlen HM.out).mono ?_
        rintro e w1 ⟨rfl, hx⟩
        have hx2 := Ext.trans (by (repeat (first | exact Ext.refl _ | assumption | refine Ext.alloc ?_ _ | refine Ext.drewN ?_ _ | refine Ext.drew ?_)) : Ext w _) hx
        obtain ⟨hc, hf⟩ := hx.cells
        clear hx
        go_wp2_with (go_at_call 61; refine (l1In_c _ _ _ _).mono ?_; rintro e w' ⟨rfl, rfl⟩)
        go_quiet ((go_at_call 107; exact quiet_same (l1Bit_c _ _ _ (by omega) (by omega))))
        go_wp2
        go_ret
        exact ⟨by rw [HF.out, hat.out, hP, hQ]; rfl, by (repeat (first | exact Ext.refl _ | assumption | refine Ext.alloc ?_ _ | refine Ext.drewN ?_ _ | refine Ext.drew ?_))⟩

theorem iTestValid_c (t : Int) (w : World) :
    Calls Tryz.prog 93 #[.int .i64 t] w fun e w' => e = .returned (.bool (inB t 0 15)) ∧ w = w' := by
  by_cases h1 : 0 ≤ t
  all_goals
    go_enter Tryz.func93, Tryz.ntmps93
    go_wp2
    go_ret
    exact ⟨by simp [inB, h1]; try omega, rfl⟩
theorem sTestValid_c (t : Int) (w : World) :
    Calls Tryz.prog 147 #[.int .i64 t] w fun e w' => e = .returned (.bool (inB t 0 15)) ∧ w = w' := by
  go_enter Tryz.func147, Tryz.ntmps147
  go_wp2_with (go_at_call 61; refine (l1In_c _ _ _ _).mono ?_; rintro e w' ⟨rfl, rfl⟩)
  go_ret
  exact ⟨rfl, rfl⟩
/-- TestNot. -/
def notF (t : Int) : Int := if inB t 0 15 then 15 - t else -1
theorem andNot15 (t : Nat) (h : t ≤ 15) : bits .andNot .i64 15 (t : Int) = 15 - (t : Int) := by
  have : t = 0 ∨ t = 1 ∨ t = 2 ∨ t = 3 ∨ t = 4 ∨ t = 5 ∨ t = 6 ∨ t = 7 ∨ t = 8 ∨ t = 9 ∨ t = 10 ∨ t = 11 ∨ t = 12 ∨ t = 13 ∨ t = 14 ∨ t = 15 := by omega
  rcases this with rfl | rfl | rfl | rfl | rfl | rfl | rfl | rfl | rfl | rfl | rfl | rfl | rfl | rfl | rfl | rfl <;> rfl
theorem iTestNot_c (t : Int) (w : World) :
    Calls Tryz.prog 64 #[.int .i64 t] w fun e w' => e = .returned (.int .i64 (notF t)) ∧ w = w' := by
  cases h : inB t 0 15
  · have HF : Hid (notF t = -1) := by unfold Hid notF; rw [h]; rfl
    go_enter Tryz.func64, Tryz.ntmps64
    go_wp2_with (go_at_call 93; refine (iTestValid_c _ _).mono ?_; rintro e w' ⟨rfl, rfl⟩)
    go_ret
    exact ⟨by rw [HF.out]; rfl, rfl⟩
  · have hb : 0 ≤ t ∧ t ≤ 15 := by simpa [inB] using h
    obtain ⟨T, rfl⟩ := Int.eq_ofNat_of_zero_le hb.1
    have HF : Hid (notF T = 15 - (T : Int)) := by unfold Hid notF; rw [h]; rfl
    have ha := andNot15 T (by omega)
    go_enter Tryz.func64, Tryz.ntmps64
    go_wp2_with (go_at_call 93; refine (iTestValid_c _ _).mono ?_; rintro e w' ⟨rfl, rfl⟩)
    go_ret
    exact ⟨by rw [HF.out]; rfl, rfl⟩

theorem testStates_c (sn p q : Nat) (av : Value) (t : Nat) (w : World) (hs : sn ≤ 5) (hp : p < 4294967296) (hq : q < 4294967296) (ht : t < 65536) :
    Calls Tryz.prog 94 #[.agg #[.int .i64 sn, .int .i64 p, .int .i64 q, av], .int .i64 t] w fun e w' => e = .returned (.int .i64 (tsTo p q t sn : Nat)) ∧ Ext w w' := by
  go_enter Tryz.func94, Tryz.ntmps94
  go_wp2
  go_loopw [5, 9] (fun o i wr => Hid (∃ k : Nat, k ≤ sn ∧ i = .int .i64 k ∧ o = .int .i64 (tsTo p q t k : Nat) ∧ Ext (w.alloc (.cells #[.int .i64 sn, .int .i64 p, .int .i64 q, av] 37)) wr)) (fun _ i _ => sn - (intOf i).toNat)
  case atStart => exact Lib.hid ⟨0, Nat.zero_le _, rfl, rfl, Ext.refl _⟩
  case round =>
    obtain ⟨k, hk, rfl, rfl, hx⟩ := hrel.out
    clear hrel
    by_cases hlt : k < sn
    · obtain ⟨hc, hf⟩ := hx.cells
      have hat := atomI_le p q k
      have hpc := pow2_cast k
      have hp1 : pow2 k ≤ 16 := pow2_le k 4 (by omega)
      have hl := tsTo_lt p q t k
      have hl2 : tsTo p q t k < 32 := Nat.lt_of_lt_of_le hl (Nat.pow_le_pow_right (by decide) (show k ≤ 5 by omega))
      have ho := i64_orN (tsTo p q t k) (pow2 k) (by omega) (by omega)
      have HO := Lib.hid (tsTo_or p q t k)
      have HS := Lib.hid (tsTo_succ p q t k)
      clear hl
      cases hb : t.testBit (atomI p q k)
      all_goals
        go_wp2_with fail
        refine (atom_c _ _ _ _ _ _ hp hq (by omega)).mono ?_
        rintro e w2 ⟨rfl, hx2⟩
        have hx3 := hx.trans hx2
        clear hx2 hc hf
        go_wp2_with (go_at_call 74; refine (holds_c _ _ _ (by omega) (by omega)).mono ?_; rintro e w' ⟨rfl, rfl⟩)
        go_roundw
      case rel => exact Lib.hid ⟨k + 1, by omega, by go_num, by rw [HS.out, hb]; rfl, hx3⟩
      case measure => simp [intOf]; omega
      case rel => exact Lib.hid ⟨k + 1, by omega, by go_num, by rw [← HO.out hb], hx3⟩
      case measure => simp [intOf]; omega
    · obtain rfl : k = sn := by omega
      go_wp2
      go_ret
      exact ⟨rfl, Ext.trans (by (repeat (first | exact Ext.refl _ | assumption | refine Ext.alloc ?_ _ | refine Ext.drewN ?_ _ | refine Ext.drew ?_))) hx⟩

theorem iTestStates_c (st p q : Int) (a : Option Addr) (cap : Nat) (ll : List (List Int)) (t : Int) (w : World) (hr : RowsAt w a ll) (hlen : ll.length ≤ 4194304) (hm : ∀ i, i < ll.length → (rowI ll i).length ≤ 4194304) :
    Calls Tryz.prog 24 #[modelV st p q a ll.length cap, .int .i64 t] w fun e w' => e = .returned (.int .i64 (testF st p q ll t)) ∧ Ext w w' := by
  have HR := Lib.hid hr
  have HM := Lib.hid hm
  clear hr hm
  cases hv : mvB st p q ll
  · have HF : Hid (testF st p q ll t = -1) := by unfold Hid testF; rw [hv]; rfl
    go_enter Tryz.func24, Tryz.ntmps24
    go_wp2_with fail
    refine (iModelValid_c st p q a cap ll _ (HR.out.ext (by (repeat (first | exact Ext.refl _ | assumption | refine Ext.alloc ?_ _ | refine Ext.drewN ?_ _ | refine Ext.drew ?_)))) hlen HM.out).mono ?_
    rintro e w1 ⟨rfl, hx⟩
    have hx2 := Ext.trans (by (repeat (first | exact Ext.refl _ | assumption | refine Ext.alloc ?_ _ | refine Ext.drewN ?_ _ | refine Ext.drew ?_)) : Ext w _) hx
    clear hx
    go_wp2
    go_ret
    exact ⟨by rw [HF.out]; rfl, hx2⟩
  · cases hs : inB t 0 15
    · have HF : Hid (testF st p q ll t = -1) := by unfold Hid testF; rw [hv, hs]; rfl
      go_enter Tryz.func24, Tryz.ntmps24
      go_wp2_with fail
      refine (iModelValid_c st p q a cap ll _ (HR.out.ext (by (repeat (first | exact Ext.refl _ | assumption | refine Ext.alloc ?_ _ | refine Ext.drewN ?_ _ | refine Ext.drew ?_)))) hlen HM.out).mono ?_
      rintro e w1 ⟨rfl, hx⟩
      have hx2 := Ext.trans (by (repeat (first | exact Ext.refl _ | assumption | refine Ext.alloc ?_ _ | refine Ext.drewN ?_ _ | refine Ext.drew ?_)) : Ext w _) hx
      clear hx
      go_wp2_with (go_at_call 93; refine (iTestValid_c _ _).mono ?_; rintro e w' ⟨rfl, rfl⟩)
      go_ret
      exact ⟨by rw [HF.out]; rfl, hx2⟩
    · obtain ⟨sn, P, Q, rfl, rfl, rfl, b1, b2, b3, b4, b5, b6, -, -⟩ := mvB_bounds hv
      have hsb : 0 ≤ t ∧ t ≤ 15 := by simpa [inB] using hs
      obtain ⟨T, rfl⟩ := Int.eq_ofNat_of_zero_le hsb.1
      have HF : Hid (testF sn P Q ll T = ((tsTo P Q T sn : Nat) : Int)) := by unfold Hid testF; rw [hv, hs, Int.toNat_natCast, Int.toNat_natCast]; rfl
      go_enter Tryz.func24, Tryz.ntmps24
      go_wp2_with fail
      refine (iModelValid_c _ _ _ a cap ll _ (HR.out.ext (by (repeat (first | exact Ext.refl _ | assumption | refine Ext.alloc ?_ _ | refine Ext.drewN ?_ _ | refine Ext.drew ?_)))) hlen HM.out).mono ?_
      rintro e w1 ⟨rfl, hx⟩
      have hx2 := Ext.trans (by (repeat (first | exact Ext.refl _ | assumption | refine Ext.alloc ?_ _ | refine Ext.drewN ?_ _ | refine Ext.drew ?_)) : Ext w _) hx
      obtain ⟨hc, hf⟩ := hx.cells
      clear hx
      go_wp2_with (go_at_call 93; refine (iTestValid_c _ _).mono ?_; rintro e w' ⟨rfl, rfl⟩)
      refine (testStates_c _ _ _ _ _ _ b2 b5 b6 (by omega)).mono ?_
      rintro e w3 ⟨rfl, hx⟩
      have hx4 := hx2.trans hx
      clear hx2 hx
      go_wp2
      go_ret
      exact ⟨by rw [HF.out]; rfl, hx4⟩

theorem sTestStates_c (st p q : Int) (a : Option Addr) (cap : Nat) (ll : List (List Int)) (t : Int) (w : World) (hr : RowsAt w a ll) (hlen : ll.length ≤ 4194304) (hm : ∀ i, i < ll.length → (rowI ll i).length ≤ 4194304) :
    Calls Tryz.prog 141 #[modelV st p q a ll.length cap, .int .i64 t] w fun e w' => e = .returned (.int .i64 (testF st p q ll t)) ∧ Ext w w' := by
  have HR := Lib.hid hr
  have HM := Lib.hid hm
  clear hr hm
  cases hv : mvB st p q ll
  · have HF : Hid (testF st p q ll t = -1) := by unfold Hid testF; rw [hv]; rfl
    go_enter Tryz.func141, Tryz.ntmps141
    go_wp2_with fail
    refine (sModelValid_c st p q a cap ll _ (HR.out.ext (by (repeat (first | exact Ext.refl _ | assumption | refine Ext.alloc ?_ _ | refine Ext.drewN ?_ _ | refine Ext.drew ?_)))) hlen HM.out).mono ?_
    rintro e w1 ⟨rfl, hx⟩
    have hx2 := Ext.trans (by (repeat (first | exact Ext.refl _ | assumption | refine Ext.alloc ?_ _ | refine Ext.drewN ?_ _ | refine Ext.drew ?_)) : Ext w _) hx
    clear hx
    go_wp2
    go_ret
    exact ⟨by rw [HF.out]; rfl, hx2⟩
  · cases hs : inB t 0 15
    · have HF : Hid (testF st p q ll t = -1) := by unfold Hid testF; rw [hv, hs]; rfl
      go_enter Tryz.func141, Tryz.ntmps141
      go_wp2_with fail
      refine (sModelValid_c st p q a cap ll _ (HR.out.ext (by (repeat (first | exact Ext.refl _ | assumption | refine Ext.alloc ?_ _ | refine Ext.drewN ?_ _ | refine Ext.drew ?_)))) hlen HM.out).mono ?_
      rintro e w1 ⟨rfl, hx⟩
      have hx2 := Ext.trans (by (repeat (first | exact Ext.refl _ | assumption | refine Ext.alloc ?_ _ | refine Ext.drewN ?_ _ | refine Ext.drew ?_)) : Ext w _) hx
      clear hx
      go_wp2_with (go_at_call 147; refine (sTestValid_c _ _).mono ?_; rintro e w' ⟨rfl, rfl⟩)
      go_ret
      exact ⟨by rw [HF.out]; rfl, hx2⟩
    · have HVV := Lib.hid hv
      obtain ⟨sn, P, Q, rfl, rfl, rfl, b1, b2, b3, b4, b5, b6, -, -⟩ := mvB_bounds hv
      have hsb : 0 ≤ t ∧ t ≤ 15 := by simpa [inB] using hs
      obtain ⟨T, rfl⟩ := Int.eq_ofNat_of_zero_le hsb.1
      have HF : Hid (testF sn P Q ll T = ((tsTo P Q T sn : Nat) : Int)) := by unfold Hid testF; rw [hv, hs, Int.toNat_natCast, Int.toNat_natCast]; rfl
      go_enter Tryz.func141, Tryz.ntmps141
      go_wp2_with fail
      refine (sModelValid_c _ _ _ a cap ll _ (HR.out.ext (by (repeat (first | exact Ext.refl _ | assumption | refine Ext.alloc ?_ _ | refine Ext.drewN ?_ _ | refine Ext.drew ?_)))) hlen HM.out).mono ?_
      rintro e w1 ⟨rfl, hx⟩
      go_wp2_with (go_at_call 147; refine (sTestValid_c _ _).mono ?_; rintro e w' ⟨rfl, rfl⟩)
      go_loopw [5, 6] (fun o i wr => Hid (∃ k : Nat, k ≤ sn ∧ i = .int .i64 k ∧ o = .int .i64 (tsTo P Q T k : Nat) ∧ Ext (w.alloc (.cells #[.int .i64 sn, .int .i64 P, .int .i64 Q, .slice a ll.length cap] 37)) wr)) (fun _ i _ => sn - (intOf i).toNat)
      case atStart => exact Lib.hid ⟨0, Nat.zero_le _, rfl, rfl, hx⟩
      case round =>
        obtain ⟨k, hk, rfl, rfl, hx2⟩ := hrel.out
        clear hrel hx
        obtain ⟨hc, hf⟩ := hx2.cells
        by_cases hlt : k < sn
        · have hat := atomI_le P Q k
          have hpc := pow2_cast k
          have hp1 : pow2 k ≤ 16 := pow2_le k 4 (by omega)
          have hl := tsTo_lt P Q T k
          have hl2 : tsTo P Q T k < 32 := Nat.lt_of_lt_of_le hl (Nat.pow_le_pow_right (by decide) (show k ≤ 5 by omega))
          have HS := Lib.hid (tsTo_succ P Q T k)
          have hin : inB (k : Int) 0 ((sn : Int) - 1) = true := by simp [inB]; omega
          have haf : atomF sn P Q ll k = ((atomI P Q k : Nat) : Int) := by unfold atomF; rw [HVV.out, hin, Int.toNat_natCast]; rfl
          clear hl
          cases hb : T.testBit (atomI P Q k)
          all_goals
            go_wp2_with fail
            refine (sAtomOf_c _ _ _ a cap ll _ _ (HR.out.ext (Ext.trans (by (repeat (first | exact Ext.refl _ | assumption | refine Ext.alloc ?_ _ | refine Ext.drewN ?_ _ | refine Ext.drew ?_))) hx2)) hlen HM.out).mono ?_
            rintro e w2 ⟨rfl, hx3⟩
            have hx4 := hx2.trans hx3
            clear hx3 hc hf
            go_wp2_with (go_at_call 107; refine (l1Bit_c _ _ _ (by omega) (by omega)).mono ?_; rintro e w' ⟨rfl, rfl⟩)
            go_roundw
          case rel => exact Lib.hid ⟨k + 1, by omega, by go_num, by rw [HS.out, hb]; rfl, hx4⟩
          case measure => simp [intOf]; omega
          case rel => exact Lib.hid ⟨k + 1, by omega, by go_num, by rw [HS.out, hb]; go_num, hx4⟩
          case measure => simp [intOf]; omega
        · obtain rfl : k = sn := by omega
          go_wp2
          go_ret
          exact ⟨by rw [HF.out]; rfl, Ext.trans (by (repeat (first | exact Ext.refl _ | assumption | refine Ext.alloc ?_ _ | refine Ext.drewN ?_ _ | refine Ext.drew ?_))) hx2⟩
end Go.Proofs.YtlaamecfknkmlaaGreat
namespace Go.Proofs.YtlaamecfknkmlaaGreat
set_option linter.unusedVariables false
open Go.RowKit Go.Kt

theorem actB_c (t : Int) (w : World) :
    Calls Tryz.prog 128 #[.int .i64 t] w fun e w' => e = .returned (.bool (inB t 16 18)) ∧ w = w' := by
  by_cases h1 : 16 ≤ t
  all_goals
    go_enter Tryz.func128, Tryz.ntmps128
    go_wp2
    go_ret
    exact ⟨by simp [inB, h1]; try omega, rfl⟩
theorem cloneI_c (a : Option Addr) (cap : Nat) (l : List Int) (w : World) (hl : IntsAt w a l) (hn : 0 < l.length) (hlen : l.length ≤ 4194304) :
    Calls Tryz.prog 135 #[.slice a l.length cap] w (RetI 3 w l) := by
  have HL := Lib.hid hl
  obtain ⟨b, off, h1, -⟩ := hl
  obtain ⟨rfl, hb⟩ := h1 hn
  have hnil : ∀ W : World, (binOp .eql 23 (.slice (some ⟨b, off, none⟩) l.length cap) (.slice none 0 0)).run Tryz.prog W = .ok (.bool false) W := fun W => Lib.run_eql_slice_nil W _ _ (some ⟨b, off, none⟩) l.length cap 0 0 Tryz.underlying23
  clear h1
  go_enter Tryz.func135, Tryz.ntmps135
  go_wp2_with (at_builtin; refine any_append_ints (by rfl) _ _ _ rfl w.heap.size 3 Tryz.underlying23 infoInt _ [] rfl ?ho _ _ l rfl ?hi ?hc ?hB ?_)
  case ho => exact OwnI.empty _ _
  case hi => exact HL.out.ext (by (repeat (first | exact Ext.refl _ | assumption | refine Ext.alloc ?_ _ | refine Ext.drewN ?_ _ | refine Ext.drew ?_)))
  case hc => simp; omega
  case hB => simp
  intro v' w' ho' hg'
  have hx' := OwnI.grown (OwnI.empty w 3) (by (repeat (first | exact Ext.refl _ | assumption | refine Ext.alloc ?_ _ | refine Ext.drewN ?_ _ | refine Ext.drew ?_))) hg'
  have HO := Lib.hid ho'
  clear ho' hg'
  go_wp2
  go_ret
  exact ⟨_, rfl, HO.out, hx'⟩
end Go.Proofs.YtlaamecfknkmlaaGreat
namespace Go.Kt
set_option linter.unusedVariables false
/-- The i-th number of a trace is an atom or an action. -/
def inR (n a b : Int) : Bool := decide (a ≤ n ∧ n ≤ b)
def tokB (l : List Int) (i : Nat) : Bool := if i % 2 = 0 then inR (nth l i) 0 3 else inR (nth l i) 16 18
def tvB (l : List Int) : Bool := decide (l.length % 2 = 1 ∧ l.length ≤ 41) && (List.range l.length).all (tokB l)
theorem tvB_len {l : List Int} (h : tvB l = true) : l.length % 2 = 1 ∧ l.length ≤ 41 := by
  unfold tvB at h
  rw [Bool.and_eq_true, decide_eq_true_eq] at h
  exact h.1
theorem tvB_tok {l : List Int} (h : tvB l = true) {k : Nat} (hk : k < l.length) : tokB l k = true := by
  unfold tvB at h
  rw [Bool.and_eq_true, List.all_eq_true] at h
  exact h.2 k (List.mem_range.2 hk)
theorem tokB_even {l : List Int} {k : Nat} (h : k % 2 = 0) : tokB l k = inR (nth l k) 0 3 := if_pos h
theorem tokB_odd {l : List Int} {k : Nat} (h : k % 2 = 1) : tokB l k = inR (nth l k) 16 18 := if_neg (by omega)
end Go.Kt
namespace Go.Proofs.YtlaamecfknkmlaaGreat
set_option linter.unusedVariables false
open Go.RowKit Go.Kt

end Go.Proofs.YtlaamecfknkmlaaGreat
namespace Go.Kt
set_option linter.unusedVariables false

def treeW (l : List Int) : Kt := (runK l []).headD (.leaf 0)
theorem treeW_words {t : Kt} (h : t.Good) : treeW t.words = t := by unfold treeW; rw [runK_words t h]; rfl
/-- What is left behind so many steps of a trace. -/
def setL (e tr : List Int) : Nat → List (List Int)
  | 0 => [e]
  | k + 1 => ordL ((setL e tr k).flatMap fun p => partsL (nth tr (2 * k)).toNat (nth tr (2 * k + 1)) (treeW p))
def tbB (e tr : List Int) : Bool := kvB e && (tvB tr && (setL e tr (tr.length / 2)).any fun p => (treeW p).ends.testBit (nth tr (tr.length - 1)).toNat)
theorem len_sub {A L : List (List Int)} (hA : Asc A) (h : ∀ x, x ∈ A → x ∈ L) : A.length ≤ L.length := by
  have e : A = (ordL L).filter (fun x => decide (x ∈ A)) := by
    refine asc_unique hA ((asc_ordL L).filter _) fun x => ?_
    rw [List.mem_filter, mem_ordL, decide_eq_true_eq]
    exact ⟨fun hx => ⟨h x hx, hx⟩, fun hx => hx.2⟩
  have h1 := List.length_filter_le (fun x => decide (x ∈ A)) (ordL L)
  rw [← e] at h1
  have := length_ordL L
  omega
/-- Expressions left of t. -/
def Left (t : Kt) (p : List Int) : Prop := ∃ q : Kt, q.Good ∧ q.words = p ∧ (q = t ∨ q ∈ t.pd)
theorem left_part {t : Kt} (hg : t.Good) {p x : List Int} {A : Nat} {act : Int} (ha : 16 ≤ act) (hp : Left t p) (hx : x ∈ partsL A act (treeW p)) : ∃ q, q ∈ t.pd ∧ q.words = x := by
  obtain ⟨q, hq, rfl, h⟩ := hp
  rw [treeW_words hq] at hx
  obtain ⟨r, hr, rfl⟩ := mem_partsL.1 hx
  rcases h with rfl | h
  · exact ⟨r, part_pd A act ha _ r hr, rfl⟩
  · exact ⟨r, pd_closed A act ha t q h r hr, rfl⟩
theorem bnd_40 {t : Kt} (hw : t.words.length ≤ 40) : t.bnd ≤ 1640 := by
  have h1 := bnd_le t
  have h2 : t.words.length * (t.words.length + 1) ≤ 40 * 41 := Nat.mul_le_mul hw (by omega)
  omega
theorem left_bnd {t : Kt} (hw : t.words.length ≤ 40) {q : Kt} (h : q = t ∨ q ∈ t.pd) : q.bnd ≤ 1640 ∧ q.words.length ≤ 1640 := by
  have := bnd_40 hw
  rcases h with rfl | h
  · omega
  · have := pd_bnd t q h; omega
end Go.Kt
namespace Go.Kt
set_option linter.unusedVariables false

/-- Those that are new, behind a list. -/
def addL (out : List (List Int)) : List (List Int) → List (List Int)
  | [] => out
  | p :: ps => addL (if p ∈ out then out else out ++ [p]) ps
theorem addL_snoc : ∀ (ps : List (List Int)) (out : List (List Int)) (p : List Int), addL out (ps ++ [p]) = if p ∈ addL out ps then addL out ps else addL out ps ++ [p]
  | [], out, p => rfl
  | q :: ps, out, p => addL_snoc ps _ p
theorem addL_take {out ps : List (List Int)} {k : Nat} (h : k < ps.length) : addL out (ps.take (k + 1)) = if rowI ps k ∈ addL out (ps.take k) then addL out (ps.take k) else addL out (ps.take k) ++ [rowI ps k] := by
  rw [List.take_add_one, List.getElem?_eq_getElem h, ← rowI_getElem _ _ h]
  exact addL_snoc _ _ _
theorem addL_pre : ∀ (ps out : List (List Int)), ∃ r, addL out ps = out ++ r
  | [], out => ⟨[], by simp [addL]⟩
  | p :: ps, out => by
    obtain ⟨r, hr⟩ := addL_pre ps (if p ∈ out then out else out ++ [p])
    unfold addL
    rw [hr]
    split
    · exact ⟨r, rfl⟩
    · exact ⟨[p] ++ r, by simp⟩
theorem mem_addL (x : List Int) : ∀ (ps out : List (List Int)), x ∈ addL out ps ↔ x ∈ out ∨ x ∈ ps
  | [], out => by simp [addL]
  | p :: ps, out => by
    unfold addL
    rw [mem_addL x ps]
    split
    · rename_i h
      simp only [List.mem_cons]
      constructor
      · rintro (h1 | h1)
        · exact .inl h1
        · exact .inr (.inr h1)
      · rintro (h1 | rfl | h1)
        · exact .inl h1
        · exact .inl h
        · exact .inr h1
    · simp only [List.mem_append, List.mem_cons, List.not_mem_nil, or_false, or_assoc]
theorem nodup_addL : ∀ (ps out : List (List Int)), out.Nodup → (addL out ps).Nodup
  | [], out, h => h
  | p :: ps, out, h => by
    unfold addL
    refine nodup_addL ps _ ?_
    split
    · exact h
    · rename_i hp
      rw [List.nodup_append]
      exact ⟨h, by simp, fun a ha b hb => by simp at hb; subst hb; rintro rfl; exact hp ha⟩
/-- What is left behind move m of twelve. -/
def movL (x : List Int) (m : Nat) : List (List Int) := partsL (m / 3) (16 + ((m % 3 : Nat) : Int)) (treeW x)
def addM (out : List (List Int)) (x : List Int) : Nat → List (List Int)
  | 0 => out
  | m + 1 => addL (addM out x m) (movL x m)
theorem addM_pre (out : List (List Int)) (x : List Int) : ∀ m, ∃ r, addM out x m = out ++ r
  | 0 => ⟨[], by simp [addM]⟩
  | m + 1 => by
    obtain ⟨r, hr⟩ := addM_pre out x m
    obtain ⟨s, hs⟩ := addL_pre (movL x m) (addM out x m)
    exact ⟨r ++ s, by unfold addM; rw [hs, hr, List.append_assoc]⟩
theorem mem_addM (out : List (List Int)) (x y : List Int) : ∀ m, y ∈ addM out x m ↔ y ∈ out ∨ ∃ j, j < m ∧ y ∈ movL x j
  | 0 => by simp [addM]
  | m + 1 => by
    unfold addM
    rw [mem_addL, mem_addM out x y m]
    constructor
    · rintro ((h | ⟨j, h1, h2⟩) | h)
      · exact .inl h
      · exact .inr ⟨j, by omega, h2⟩
      · exact .inr ⟨m, by omega, h⟩
    · rintro (h | ⟨j, h1, h2⟩)
      · exact .inl (.inl h)
      · by_cases e : j = m
        · subst e; exact .inr h2
        · exact .inl (.inr ⟨j, by omega, h2⟩)
theorem nodup_addM (out : List (List Int)) (x : List Int) (h : out.Nodup) : ∀ m, (addM out x m).Nodup
  | 0 => h
  | m + 1 => nodup_addL _ _ (nodup_addM out x h m)
/-- Behind k rounds. -/
def clL (e : List Int) : Nat → List (List Int)
  | 0 => [e]
  | k + 1 => if k < (clL e k).length then addM (clL e k) (rowI (clL e k) k) 12 else clL e k
theorem clL_succ (e : List Int) (k : Nat) : clL e (k + 1) = if k < (clL e k).length then addM (clL e k) (rowI (clL e k) k) 12 else clL e k := rfl
theorem clL_pre (e : List Int) (k : Nat) : ∃ r, clL e (k + 1) = clL e k ++ r := by
  rw [clL_succ]
  split
  · exact addM_pre _ _ _
  · exact ⟨[], by simp⟩
theorem clL_le (e : List Int) (k : Nat) : (clL e k).length ≤ (clL e (k + 1)).length := by
  obtain ⟨r, hr⟩ := clL_pre e k
  rw [hr, List.length_append]; omega
theorem clL_pos (e : List Int) : ∀ k, 1 ≤ (clL e k).length
  | 0 => Nat.le_refl _
  | k + 1 => Nat.le_trans (clL_pos e k) (clL_le e k)
theorem clL_row (e : List Int) (k i : Nat) (h : i < (clL e k).length) : rowI (clL e (k + 1)) i = rowI (clL e k) i := by
  obtain ⟨r, hr⟩ := clL_pre e k
  rw [hr, rowI_getElem _ _ (by rw [List.length_append]; omega), rowI_getElem _ _ h, List.getElem_append_left h]
theorem nodup_clL (e : List Int) : ∀ k, (clL e k).Nodup
  | 0 => by simp [clL]
  | k + 1 => by
    unfold clL
    split
    · exact nodup_addM _ _ (nodup_clL e k) _
    · exact nodup_clL e k
theorem clL_stop {e : List Int} {k : Nat} (h : (clL e k).length ≤ k) : ∀ d, clL e (k + d) = clL e k
  | 0 => rfl
  | d + 1 => by
    have ih := clL_stop h d
    show clL e (k + d + 1) = _
    have : clL e (k + d + 1) = if k + d < (clL e (k + d)).length then addM (clL e (k + d)) (rowI (clL e (k + d)) (k + d)) 12 else clL e (k + d) := rfl
    rw [this, ih, if_neg (by omega)]
theorem movL_left {t : Kt} (hg : t.Good) {x y : List Int} {m : Nat} (hx : Left t x) (hy : y ∈ movL x m) : ∃ q, q ∈ t.pd ∧ q.words = y := left_part hg (by omega) hx hy
theorem clL_left {t : Kt} (hg : t.Good) : ∀ k x, x ∈ clL t.words k → Left t x
  | 0, x, hx => by simp [clL] at hx; subst hx; exact ⟨t, hg, rfl, .inl rfl⟩
  | k + 1, x, hx => by
    unfold clL at hx
    split at hx
    · rename_i hk
      rcases (mem_addM _ _ _ _).1 hx with hx | ⟨j, _, hx⟩
      · exact clL_left hg k x hx
      · obtain ⟨q, hq, rfl⟩ := movL_left hg (clL_left hg k _ (by rw [rowI_getElem _ _ hk]; exact List.getElem_mem hk)) hx
        exact ⟨q, pd_good t hg q hq, rfl, .inr hq⟩
    · exact clL_left hg k x hx
theorem length_ordL_nodup : ∀ {L : List (List Int)}, L.Nodup → (ordL L).length = L.length
  | [], _ => rfl
  | x :: L, h => by
    have h' := List.nodup_cons.1 h
    have ih := length_ordL_nodup h'.2
    have key : ∀ M : List (List Int), x ∉ M → (insL x M).length = M.length + 1 := by
      intro M
      induction M with
      | nil => intro _; rfl
      | cons y M ihM =>
        intro hM
        unfold insL
        split
        · rw [List.length_cons, ihM (fun h => hM (List.mem_cons_of_mem _ h)), List.length_cons]
        · split
          · rename_i he; exact absurd (by rw [he]; simp) hM
          · rfl
    show (insL x (ordL L)).length = _
    rw [key _ (fun hx => h'.1 ((mem_ordL x L).1 hx)), ih]; rfl
theorem nodup_len {A L : List (List Int)} (hA : A.Nodup) (h : ∀ x, x ∈ A → x ∈ L) : A.length ≤ L.length := by
  rw [← length_ordL_nodup hA]
  exact len_sub (asc_ordL A) fun x hx => h x ((mem_ordL x A).1 hx)
theorem clL_len {t : Kt} (hg : t.Good) (hw : t.words.length ≤ 40) (k : Nat) : (clL t.words k).length ≤ 41 := by
  have h1 := nodup_len (L := (t :: t.pd).map Kt.words) (nodup_clL t.words k) fun x hx => by
    obtain ⟨q, hq, rfl, h⟩ := clL_left hg k x hx
    rcases h with rfl | h
    · exact List.mem_map.2 ⟨_, by simp, rfl⟩
    · exact List.mem_map.2 ⟨q, by simp [h], rfl⟩
  have h2 := pd_length t
  have h3 := acts_le t
  simp only [List.length_map, List.length_cons] at h1
  omega
def allL (e : List Int) : List (List Int) := clL e 41
theorem allL_of {e : List Int} {k : Nat} (hk : k ≤ 41) (h : (clL e k).length ≤ k) : allL e = clL e k := by
  have := clL_stop h (41 - k)
  rw [show k + (41 - k) = 41 by omega] at this
  exact this
theorem clL_closed (e : List Int) : ∀ k i, i < k → i < (clL e k).length → ∀ m, m < 12 → ∀ y, y ∈ movL (rowI (clL e k) i) m → y ∈ clL e k
  | 0, i, h, _, _, _, _, _ => by omega
  | k + 1, i, h, hi, m, hm, y, hy => by
    by_cases hik : i < (clL e k).length
    · rw [clL_row e k i hik] at hy
      by_cases e1 : i = k
      · subst e1
        have : clL e (i + 1) = addM (clL e i) (rowI (clL e i) i) 12 := by
          show (if i < (clL e i).length then _ else _) = _
          rw [if_pos hik]
        rw [this, mem_addM]
        exact .inr ⟨m, hm, hy⟩
      · have := clL_closed e k i (by omega) hik m hm y hy
        obtain ⟨r, hr⟩ := clL_pre e k
        rw [hr]; exact List.mem_append.2 (.inl this)
    · have : clL e (k + 1) = clL e k ∨ k < (clL e k).length := by
        by_cases hk : k < (clL e k).length
        · exact .inr hk
        · refine .inl ?_
          show (if k < (clL e k).length then _ else _) = _
          rw [if_neg hk]
      rcases this with h1 | h1
      · rw [h1] at hi; omega
      · omega
theorem allL_closed {t : Kt} (hg : t.Good) (hw : t.words.length ≤ 40) {x : List Int} (hx : x ∈ allL t.words) {m : Nat} (hm : m < 12) {y : List Int} (hy : y ∈ movL x m) : y ∈ allL t.words := by
  obtain ⟨i, hi, he⟩ := List.mem_iff_getElem.1 hx
  have hl := clL_len hg hw 41
  refine clL_closed t.words 41 i (by unfold allL at hi; omega) hi m hm y ?_
  have : rowI (clL t.words 41) i = x := (rowI_getElem _ _ hi).trans he
  rw [this]; exact hy
theorem allL_head (e : List Int) : ∀ k, rowI (clL e k) 0 = e
  | 0 => rfl
  | k + 1 => by rw [clL_row e k 0 (clL_pos e k)]; exact allL_head e k
theorem allL_left {t : Kt} (hg : t.Good) {x : List Int} (hx : x ∈ allL t.words) : Left t x := clL_left hg 41 x hx
theorem nodup_allL (e : List Int) : (allL e).Nodup := nodup_clL e 41
end Go.Kt
namespace Go.Kt
set_option linter.unusedVariables false

/-- The set of those below n that meet p. -/
def sumN (p : Nat → Bool) : Nat → Nat
  | 0 => 0
  | k + 1 => sumN p k + if p k then pow2 k else 0
theorem sumN_succ (p : Nat → Bool) (k : Nat) : sumN p (k + 1) = sumN p k + if p k then pow2 k else 0 := rfl
theorem sumN_lt (p : Nat → Bool) : ∀ k, sumN p k < 2 ^ k
  | 0 => by simp [sumN]
  | k + 1 => by
    have := sumN_lt p k
    rw [sumN_succ, Nat.pow_succ]
    unfold pow2
    split <;> omega
theorem sumN_or (p : Nat → Bool) (k : Nat) (h : p k = true) : orN (sumN p k) (pow2 k) = sumN p (k + 1) := by
  have := Nat.two_pow_add_eq_or_of_lt (sumN_lt p k) 1
  rw [Nat.mul_one] at this
  rw [sumN_succ, if_pos h, orN, pow2, Nat.or_comm, ← this, Nat.add_comm]
theorem testBit_sumN (p : Nat → Bool) (s : Nat) : ∀ k, (sumN p k).testBit s = true ↔ s < k ∧ p s = true
  | 0 => by simp [sumN]
  | k + 1 => by
    cases hb : p k
    · rw [sumN_succ, hb]
      simp only [Bool.false_eq_true, if_false, Nat.add_zero]
      rw [testBit_sumN p s k]
      constructor
      · rintro ⟨h1, h2⟩; exact ⟨by omega, h2⟩
      · rintro ⟨h1, h2⟩
        by_cases hsj : s = k
        · subst hsj; rw [hb] at h2; cases h2
        · exact ⟨by omega, h2⟩
    · rw [← sumN_or p k hb, testBit_orN, Bool.or_eq_true, testBit_sumN p s k, testBit_pow2, decide_eq_true_eq]
      constructor
      · rintro (⟨h1, h2⟩ | rfl)
        · exact ⟨by omega, h2⟩
        · exact ⟨by omega, hb⟩
      · rintro ⟨h1, h2⟩
        by_cases hsk : s = k
        · exact .inr hsk.symm
        · exact .inl ⟨by omega, h2⟩
theorem bits_eq {a b : Nat} (h : ∀ i, a.testBit i = true ↔ b.testBit i = true) : a = b := Sub.antisymm (fun i hi => (h i).1 hi) (fun i hi => (h i).2 hi)
/-- The set of the places of a list that are in another one. -/
def idxN (L left : List (List Int)) (n : Nat) : Nat := sumN (fun j => decide (rowI L j ∈ left)) n
theorem testBit_idxN (L left : List (List Int)) (n j : Nat) : (idxN L left n).testBit j = true ↔ j < n ∧ rowI L j ∈ left := by
  unfold idxN; rw [testBit_sumN, decide_eq_true_eq]
theorem idxN_lt (L left : List (List Int)) (n : Nat) : idxN L left n < 2 ^ n := sumN_lt _ n
/-- The sets behind a part. -/
def rowA (L : List (List Int)) (x : List Int) (k : Nat) : List Int := (List.range k).map fun m => ((idxN L (movL x m) L.length : Nat) : Int)
theorem rowA_length (L : List (List Int)) (x : List Int) (k : Nat) : (rowA L x k).length = k := by simp [rowA]
theorem rowA_get (L : List (List Int)) (x : List Int) (k m : Nat) (h : m < k) : nth (rowA L x k) m = ((idxN L (movL x m) L.length : Nat) : Int) := by
  rw [nth_getElem _ _ (by rw [rowA_length]; exact h)]; simp [rowA]
theorem rowA_succ (L : List (List Int)) (x : List Int) (k : Nat) : rowA L x (k + 1) = rowA L x k ++ [((idxN L (movL x k) L.length : Nat) : Int)] := by simp [rowA, List.range_succ]
def autE (L : List (List Int)) (k : Nat) : List Int := (L.take k).map fun x => (((treeW x).ends : Nat) : Int)
def autN (L : List (List Int)) (k : Nat) : List (List Int) := (L.take k).map fun x => rowA L x 12
theorem autE_succ {L : List (List Int)} {k : Nat} (h : k < L.length) : autE L (k + 1) = autE L k ++ [(((treeW (rowI L k)).ends : Nat) : Int)] := by
  unfold autE; rw [List.take_add_one, List.getElem?_eq_getElem h, List.map_append, rowI_getElem _ _ h]; rfl
theorem autN_succ {L : List (List Int)} {k : Nat} (h : k < L.length) : autN L (k + 1) = autN L k ++ [rowA L (rowI L k) 12] := by
  unfold autN; rw [List.take_add_one, List.getElem?_eq_getElem h, List.map_append, rowI_getElem _ _ h]; rfl
theorem autE_len (L : List (List Int)) (k : Nat) : (autE L k).length = min k L.length := by simp [autE]
theorem autN_len (L : List (List Int)) (k : Nat) : (autN L k).length = min k L.length := by simp [autN]
theorem autE_nth {L : List (List Int)} {k s : Nat} (h : s < k) (hs : s < L.length) : nth (autE L k) s = (((treeW (rowI L s)).ends : Nat) : Int) := by
  rw [nth_getElem _ _ (by rw [autE_len]; omega), rowI_getElem _ _ hs]; simp [autE]
theorem autE_get {L : List (List Int)} {k s : Nat} (h : s < k) (hs : s < L.length) : natAt (autE L k) s = (treeW (rowI L s)).ends := natAt_cast (autE_nth h hs)
theorem autN_get {L : List (List Int)} {k s : Nat} (h : s < k) (hs : s < L.length) : rowI (autN L k) s = rowA L (rowI L s) 12 := by
  rw [rowI_getElem _ _ (by rw [autN_len]; omega), rowI_getElem _ _ hs]; simp [autN]
/-- An expression has an automaton. -/
def auB (e : List Int) : Bool := kvB e && decide ((allL e).length ≤ 10)
def auE (e : List Int) : List Int := if auB e then autE (allL e) (allL e).length else []
def auN (e : List Int) : List (List Int) := if auB e then autN (allL e) (allL e).length else []
/-- A valid automaton. -/
structure Auto (E : List Int) (N : List (List Int)) : Prop where
  len : N.length = E.length
  ten : E.length ≤ 10
  ends : ∀ s, s < E.length → 0 ≤ nth E s ∧ nth E s < 16
  row : ∀ s, s < E.length → (rowI N s).length = 12
  next : ∀ s, s < E.length → ∀ m, m < 12 → 0 ≤ nth (rowI N s) m ∧ nth (rowI N s) m < 2 ^ E.length
theorem auto_of (e : List Int) : Auto (auE e) (auN e) := by
  unfold auE auN
  by_cases h : auB e = true
  · rw [if_pos h, if_pos h]
    have h10 : (allL e).length ≤ 10 := by unfold auB at h; simp at h; exact h.2
    have hE : (autE (allL e) (allL e).length).length = (allL e).length := by rw [autE_len]; omega
    refine ⟨by rw [autN_len, autE_len], by omega, fun s hs => ?_, fun s hs => ?_, fun s hs m hm => ?_⟩
    · rw [hE] at hs
      rw [autE_nth hs hs]
      have := (treeW (rowI (allL e) s)).ends_lt
      omega
    · rw [hE] at hs
      rw [autN_get hs hs, rowA_length]
    · rw [hE] at hs ⊢
      rw [autN_get hs hs, rowA_get _ _ _ _ hm]
      have := idxN_lt (allL e) (movL (rowI (allL e) s) m) (allL e).length
      refine ⟨by omega, ?_⟩
      have h2 : ((2 ^ (allL e).length : Nat) : Int) = 2 ^ (allL e).length := by simp
      rw [← h2]; omega
  · rw [if_neg h, if_neg h]
    exact ⟨rfl, by simp, fun s hs => by simp at hs, fun s hs => by simp at hs, fun s hs => by simp at hs⟩
/-- A column of the table. -/
def colA (N : List (List Int)) (m : Nat) : List Int := N.map fun r => nth r m
theorem colA_length (N : List (List Int)) (m : Nat) : (colA N m).length = N.length := by simp [colA]
theorem colA_get {N : List (List Int)} {m s : Nat} (h : s < N.length) : nth (colA N m) s = nth (rowI N s) m := by
  rw [nth_getElem _ _ (by rw [colA_length]; exact h), rowI_getElem _ _ h]; simp [colA]
theorem colA_nat {N : List (List Int)} {m s : Nat} (h : s < N.length) : natAt (colA N m) s = natAt (rowI N s) m := by unfold natAt; rw [colA_get h]
/-- The states behind a set. -/
def stp (N : List (List Int)) (S m : Nat) : Nat := img (colA N m) S
theorem Auto.nat {E : List Int} {N : List (List Int)} (h : Auto E N) {s m : Nat} (hs : s < E.length) (hm : m < 12) : natAt (rowI N s) m < 2 ^ E.length := by
  have := (h.next s hs m hm)
  unfold natAt
  have h2 : ((2 ^ E.length : Nat) : Int) = 2 ^ E.length := by simp
  rw [← h2] at this; omega
theorem two_10 {E : List Int} {N : List (List Int)} (h : Auto E N) : 2 ^ E.length ≤ 1024 := by
  have : 2 ^ E.length ≤ 2 ^ 10 := Nat.pow_le_pow_right (by decide) h.ten
  omega
theorem testBit_stp {E : List Int} {N : List (List Int)} (h : Auto E N) (S m j : Nat) : (stp N S m).testBit j = true ↔ ∃ s, s < E.length ∧ S.testBit s = true ∧ (natAt (rowI N s) m).testBit j = true := by
  unfold stp
  rw [testBit_img, colA_length, h.len]
  constructor
  · rintro ⟨s, h1, h2, h3⟩
    exact ⟨s, h1, h2, by rw [colA_nat (by rw [h.len]; exact h1)] at h3; exact h3⟩
  · rintro ⟨s, h1, h2, h3⟩
    exact ⟨s, h1, h2, by rw [colA_nat (by rw [h.len]; exact h1)]; exact h3⟩
theorem auB_kv {e : List Int} (h : auB e = true) : kvB e = true ∧ (allL e).length ≤ 10 := by unfold auB at h; simpa using h
theorem auE_len {e : List Int} (h : auB e = true) : (auE e).length = (allL e).length := by unfold auE; rw [if_pos h, autE_len]; omega
theorem auE_off {e : List Int} (h : auB e = false) : auE e = [] := by unfold auE; rw [h]; rfl
theorem auE_pos {e : List Int} (h : auB e = true) : 1 ≤ (auE e).length := by rw [auE_len h]; exact clL_pos e 41
theorem auE_nat {e : List Int} (h : auB e = true) {s : Nat} (hs : s < (allL e).length) : natAt (auE e) s = (treeW (rowI (allL e) s)).ends := by
  unfold auE; rw [if_pos h]; exact autE_get hs hs
theorem auN_bit {e : List Int} (h : auB e = true) {s m j : Nat} (hs : s < (allL e).length) (hm : m < 12) : (natAt (rowI (auN e) s) m).testBit j = true ↔ j < (allL e).length ∧ rowI (allL e) j ∈ movL (rowI (allL e) s) m := by
  unfold auN
  rw [if_pos h, autN_get hs hs, natAt_cast (rowA_get _ _ _ _ hm), testBit_idxN]
/-- What a set of states stands for. -/
def InS (e : List Int) (S : Nat) (x : List Int) : Prop := ∃ s, s < (allL e).length ∧ S.testBit s = true ∧ rowI (allL e) s = x
theorem inS_one (e x : List Int) : InS e 1 x ↔ x = e := by
  have h0 : rowI (allL e) 0 = e := allL_head e 41
  constructor
  · rintro ⟨s, h1, h2, h3⟩
    have h2' : (pow2 0).testBit s = true := h2
    rw [testBit_pow2, decide_eq_true_eq] at h2'
    subst h2'
    rw [← h3, h0]
  · rintro rfl
    exact ⟨0, clL_pos x 41, by decide, h0⟩
theorem inS_stp {t : Kt} (hg : t.Good) (h : auB t.words = true) {S m : Nat} (hm : m < 12) (y : List Int) : InS t.words (stp (auN t.words) S m) y ↔ ∃ x, InS t.words S x ∧ y ∈ movL x m := by
  have hw := (kvB_len (auB_kv h).1).2
  constructor
  · rintro ⟨j, h1, h2, rfl⟩
    obtain ⟨s, k1, k2, k3⟩ := (testBit_stp (auto_of _) S m j).1 h2
    rw [auE_len h] at k1
    exact ⟨_, ⟨s, k1, k2, rfl⟩, ((auN_bit h k1 hm).1 k3).2⟩
  · rintro ⟨x, ⟨s, k1, k2, rfl⟩, hy⟩
    have hc := allL_closed hg hw (by rw [rowI_getElem _ _ k1]; exact List.getElem_mem k1) hm hy
    obtain ⟨j, hj, he⟩ := List.mem_iff_getElem.1 hc
    have he' : rowI (allL t.words) j = y := by rw [rowI_getElem _ _ hj]; exact he
    exact ⟨j, hj, (testBit_stp (auto_of _) S m j).2 ⟨s, by rw [auE_len h]; exact k1, k2, (auN_bit h k1 hm).2 ⟨hj, by rw [he']; exact hy⟩⟩, he'⟩
theorem inS_ends {e : List Int} (h : auB e = true) (S a : Nat) : (img (auE e) S).testBit a = true ↔ ∃ x, InS e S x ∧ (treeW x).ends.testBit a = true := by
  rw [testBit_img, auE_len h]
  constructor
  · rintro ⟨s, h1, h2, h3⟩
    rw [auE_nat h h1] at h3
    exact ⟨_, ⟨s, h1, h2, rfl⟩, h3⟩
  · rintro ⟨x, ⟨s, h1, h2, rfl⟩, h3⟩
    exact ⟨s, h1, h2, by rw [auE_nat h h1]; exact h3⟩
/-- A trace runs through an automaton. -/
def moveN (tr : List Int) (k : Nat) : Nat := 3 * (nth tr (2 * k)).toNat + (nth tr (2 * k + 1)).toNat - 16
def runA (N : List (List Int)) (tr : List Int) : Nat → Nat
  | 0 => 1
  | k + 1 => stp N (runA N tr k) (moveN tr k)
theorem trace_move {tr : List Int} (hv : tvB tr = true) {k : Nat} (hk : 2 * k + 1 < tr.length) : (moveN tr k) < 12 ∧ (moveN tr k) / 3 = (nth tr (2 * k)).toNat ∧ 16 + (((moveN tr k) % 3 : Nat) : Int) = nth tr (2 * k + 1) := by
  have h1 := tvB_tok hv (show 2 * k < tr.length by omega)
  have h2 := tvB_tok hv hk
  rw [tokB_even (by omega)] at h1
  rw [tokB_odd (by omega)] at h2
  simp [inR] at h1 h2
  unfold moveN
  refine ⟨by omega, by omega, by omega⟩
theorem setL_runA {t : Kt} (hg : t.Good) (h : auB t.words = true) {tr : List Int} (hv : tvB tr = true) : ∀ k, 2 * k + 1 ≤ tr.length → ∀ x, x ∈ setL t.words tr k ↔ InS t.words (runA (auN t.words) tr k) x
  | 0, _, x => by
    show x ∈ [t.words] ↔ _
    rw [List.mem_singleton]; exact (inS_one _ _).symm
  | k + 1, hk, x => by
    obtain ⟨m1, m2, m3⟩ := trace_move hv (show 2 * k + 1 < tr.length by omega)
    show x ∈ ordL _ ↔ InS _ (stp _ _ _) x
    rw [mem_ordL, List.mem_flatMap, inS_stp hg h m1]
    constructor
    · rintro ⟨p, hp, hx⟩
      exact ⟨p, (setL_runA hg h hv k (by omega) p).1 hp, by unfold movL; rw [m2, m3]; exact hx⟩
    · rintro ⟨p, hp, hx⟩
      exact ⟨p, (setL_runA hg h hv k (by omega) p).2 hp, by unfold movL at hx; rw [m2, m3] at hx; exact hx⟩
theorem tbB_runA {t : Kt} (hg : t.Good) (h : auB t.words = true) {tr : List Int} (hv : tvB tr = true) : tbB t.words tr = (img (auE t.words) (runA (auN t.words) tr (tr.length / 2))).testBit (nth tr (tr.length - 1)).toNat := by
  have hl := tvB_len hv
  rw [Bool.eq_iff_iff, inS_ends h]
  unfold tbB
  rw [(auB_kv h).1, hv, Bool.true_and, Bool.true_and, List.any_eq_true]
  constructor
  · rintro ⟨x, hx, he⟩
    exact ⟨x, (setL_runA hg h hv _ (by omega) x).1 hx, he⟩
  · rintro ⟨x, hx, he⟩
    exact ⟨x, (setL_runA hg h hv _ (by omega) x).2 hx, he⟩
section
variable {p q : Int} {st : Nat} {ll : List (List Int)}
def RunS (p q : Int) (ll : List (List Int)) (e : List Int) (n S i u : Nat) : Prop := ∃ x, InS e S x ∧ Run p q ll n (treeW x) i u
theorem runS_zero {e : List Int} (h : auB e = true) (S i u : Nat) : RunS p q ll e 0 S i u ↔ i = u ∧ (img (auE e) S).testBit (atomI p q i) = true := by
  rw [inS_ends h]
  constructor
  · rintro ⟨x, hx, rfl, he⟩; exact ⟨rfl, x, hx, he⟩
  · rintro ⟨rfl, x, hx, he⟩; exact ⟨x, hx, rfl, he⟩
theorem inS_left {t : Kt} (hg : t.Good) {S : Nat} {x : List Int} (hx : InS t.words S x) : Left t x := by
  obtain ⟨s, h1, -, rfl⟩ := hx
  exact allL_left hg (by rw [rowI_getElem _ _ h1]; exact List.getElem_mem h1)
theorem runS_succ {t : Kt} (hg : t.Good) (h : auB t.words = true) (n S i u : Nat) : RunS p q ll t.words (n + 1) S i u ↔ ∃ (k j : Nat), k < 3 ∧ By (rowI ll k) i j ∧ RunS p q ll t.words n (stp (auN t.words) S (3 * atomI p q i + k)) j u := by
  have ha := atomI_le p q i
  constructor
  · rintro ⟨x, hx, k, j, r, hk, hr, hb, h2⟩
    refine ⟨k, j, hk, hb, r.words, (inS_stp hg h (by omega) _).2 ⟨x, hx, ?_⟩, ?_⟩
    · unfold movL
      rw [show (3 * atomI p q i + k) / 3 = atomI p q i by omega, show (3 * atomI p q i + k) % 3 = k by omega]
      exact mem_partsL.2 ⟨r, hr, rfl⟩
    · obtain ⟨qx, hq, rfl, -⟩ := inS_left hg hx
      rw [treeW_words hq] at hr
      rw [treeW_words (pd_good qx hq r (part_pd _ _ (by omega) qx r hr))]; exact h2
  · rintro ⟨k, j, hk, hb, y, hy, h2⟩
    obtain ⟨x, hx, hm⟩ := (inS_stp hg h (by omega) _).1 hy
    unfold movL at hm
    rw [show (3 * atomI p q i + k) / 3 = atomI p q i by omega, show (3 * atomI p q i + k) % 3 = k by omega] at hm
    obtain ⟨r, hr, rfl⟩ := mem_partsL.1 hm
    refine ⟨x, hx, k, j, r, hk, hr, hb, ?_⟩
    obtain ⟨qx, hq, rfl, -⟩ := inS_left hg hx
    rw [treeW_words hq] at hr
    rw [treeW_words (pd_good qx hq r (part_pd _ _ (by omega) qx r hr))] at h2; exact h2
theorem runS_one {t : Kt} (hg : t.Good) (n i u : Nat) : RunS p q ll t.words n 1 i u ↔ Run p q ll n t i u := by
  constructor
  · rintro ⟨x, hx, h⟩
    rw [(inS_one _ _).1 hx, treeW_words hg] at h; exact h
  · intro h
    exact ⟨t.words, (inS_one _ _).2 rfl, by rw [treeW_words hg]; exact h⟩
end
end Go.Kt
namespace Go.Kt
set_option linter.unusedVariables false

/-- The pair behind a pair. -/
def nxP (N M : List (List Int)) (p : Nat × Nat) (m : Nat) : Nat × Nat := (stp N p.1 m, stp M p.2 m)
def atP (L : List (Nat × Nat)) (k : Nat) : Nat × Nat := L.getD k (0, 0)
theorem atP_getElem (L : List (Nat × Nat)) (k : Nat) (h : k < L.length) : atP L k = L[k] := by
  unfold atP; rw [List.getD_eq_getElem?_getD, List.getElem?_eq_getElem h]; rfl
def rowP (p : Nat × Nat) : List Int := [(p.1 : Int), (p.2 : Int)]
theorem rowP_inj {p q : Nat × Nat} (h : rowP p = rowP q) : p = q := by
  unfold rowP at h
  simp at h
  exact Prod.ext (by have := h.1; omega) (by have := h.2; omega)
def inS (n : Nat) (x : Int) : Bool := decide (0 ≤ x ∧ x < ((2 ^ n : Nat) : Int))
def rowB (n m : Nat) (r : List Int) : Bool := decide (r.length = 2) && (inS n (nth r 0) && inS m (nth r 1))
def pairP (r : List Int) : Nat × Nat := (natAt r 0, natAt r 1)
theorem rowB_pair {n m : Nat} {r : List Int} (h : rowB n m r = true) : rowP (pairP r) = r ∧ natAt r 0 < 2 ^ n ∧ natAt r 1 < 2 ^ m := by
  unfold rowB inS at h
  simp only [Bool.and_eq_true, decide_eq_true_eq] at h
  obtain ⟨hl, h0, h1⟩ := h
  match r, hl with
  | [x, y], _ =>
    have e0 : nth [x, y] 0 = x := rfl
    have e1 : nth [x, y] 1 = y := rfl
    rw [e0] at h0
    rw [e1] at h1
    unfold rowP pairP natAt
    rw [e0, e1]
    refine ⟨?_, by omega, by omega⟩
    simp only []
    rw [Int.toNat_of_nonneg h0.1, Int.toNat_of_nonneg h1.1]
theorem pairP_rowP (p : Nat × Nat) : pairP (rowP p) = p := by
  unfold pairP rowP natAt nth
  simp
structure Ok (e f : List Int) (L : List (List Int)) : Prop where
  a : auB e = true
  b : auB f = true
  few : L.length ≤ 100
  row : ∀ r, r ∈ L → rowB (auE e).length (auE f).length r = true
  one : rowP (1, 1) ∈ L
  ends : ∀ r, r ∈ L → img (auE e) (pairP r).1 = img (auE f) (pairP r).2
  next : ∀ r, r ∈ L → ∀ m, m < 12 → rowP (nxP (auN e) (auN f) (pairP r) m) ∈ L
theorem Ok.endsP {e f : List Int} {L : List (List Int)} (h : Ok e f L) {S T : Nat} (hp : rowP (S, T) ∈ L) : img (auE e) S = img (auE f) T := by
  have := h.ends _ hp
  rw [pairP_rowP] at this; exact this
theorem Ok.nextP {e f : List Int} {L : List (List Int)} (h : Ok e f L) {S T : Nat} (hp : rowP (S, T) ∈ L) {m : Nat} (hm : m < 12) : rowP (stp (auN e) S m, stp (auN f) T m) ∈ L := by
  have := h.next _ hp m hm
  rw [pairP_rowP] at this; exact this
/-- The same pairs in another order. -/
theorem Ok.same {e f : List Int} {L L' : List (List Int)} (h : Ok e f L) (hl : L'.length = L.length) (hm : ∀ r, r ∈ L' ↔ r ∈ L) : Ok e f L' :=
  ⟨h.a, h.b, by rw [hl]; exact h.few, fun r hr => h.row r ((hm r).1 hr), (hm _).2 h.one, fun r hr => h.ends r ((hm r).1 hr), fun r hr m hm' => (hm _).2 (h.next r ((hm r).1 hr) m hm')⟩
def turnR (r : List Int) : List Int := [nth r 1, nth r 0]
theorem turnR_rowP (p : Nat × Nat) : turnR (rowP p) = rowP (p.2, p.1) := rfl
/-- Both exchanged. -/
theorem Ok.turn {e f : List Int} {L L' : List (List Int)} (h : Ok e f L) (hl : L'.length = L.length) (hm : ∀ r, r ∈ L' ↔ ∃ r', r' ∈ L ∧ turnR r' = r) : Ok f e L' := by
  have key : ∀ r, r ∈ L' → ∃ p : Nat × Nat, rowP p ∈ L ∧ r = rowP (p.2, p.1) ∧ rowB (auE e).length (auE f).length (rowP p) = true := fun r hr => by
    obtain ⟨r', h1, rfl⟩ := (hm r).1 hr
    have h2 := h.row r' h1
    have h3 := (rowB_pair h2).1
    refine ⟨pairP r', by rw [h3]; exact h1, ?_, by rw [h3]; exact h2⟩
    rw [← turnR_rowP, h3]
  refine ⟨h.b, h.a, by rw [hl]; exact h.few, fun r hr => ?_, (hm _).2 ⟨_, h.one, rfl⟩, fun r hr => ?_, fun r hr m hm' => ?_⟩
  · obtain ⟨p, h1, rfl, h2⟩ := key r hr
    unfold rowB at h2 ⊢
    simp only [Bool.and_eq_true] at h2 ⊢
    exact ⟨h2.1, h2.2.2, h2.2.1⟩
  · obtain ⟨p, h1, rfl, h2⟩ := key r hr
    rw [pairP_rowP]
    exact (h.endsP h1).symm
  · obtain ⟨p, h1, rfl, h2⟩ := key r hr
    rw [pairP_rowP]
    exact (hm _).2 ⟨_, h.nextP h1 hm', rfl⟩
/-- The same traces. -/
theorem Ok.runs {e f : List Int} {L : List (List Int)} (h : Ok e f L) {tr : List Int} (hv : tvB tr = true) : ∀ k, 2 * k + 1 ≤ tr.length → rowP (runA (auN e) tr k, runA (auN f) tr k) ∈ L
  | 0, _ => h.one
  | k + 1, hk => h.nextP (h.runs hv k (by omega)) (trace_move hv (by omega)).1
theorem Ok.traces {s t : Kt} (hs : s.Good) (ht : t.Good) {L : List (List Int)} (h : Ok s.words t.words L) {tr : List Int} (hv : tvB tr = true) : tbB s.words tr = tbB t.words tr := by
  have hl := tvB_len hv
  rw [tbB_runA hs h.a hv, tbB_runA ht h.b hv, h.endsP (h.runs hv (tr.length / 2) (by omega))]
theorem Ok.tb {e f : List Int} {L : List (List Int)} (h : Ok e f L) (tr : List Int) : tbB e tr = tbB f tr := by
  obtain ⟨s, hs, rfl⟩ := kvB_tree (auB_kv h.a).1
  obtain ⟨t, ht, rfl⟩ := kvB_tree (auB_kv h.b).1
  cases hv : tvB tr
  · unfold tbB; rw [hv]; simp
  · exact h.traces hs ht hv
/-- The same rows. -/
theorem Ok.ways {s t : Kt} (hs : s.Good) (ht : t.Good) {L : List (List Int)} (h : Ok s.words t.words L) {p q : Int} {ll : List (List Int)} : ∀ n S T i u, rowP (S, T) ∈ L → (RunS p q ll s.words n S i u ↔ RunS p q ll t.words n T i u)
  | 0, S, T, i, u, hp => by rw [runS_zero h.a, runS_zero h.b, h.endsP hp]
  | n + 1, S, T, i, u, hp => by
    rw [runS_succ hs h.a, runS_succ ht h.b]
    have ha := atomI_le p q i
    constructor
    · rintro ⟨k, j, hk, hb, h2⟩
      exact ⟨k, j, hk, hb, (h.ways hs ht n _ _ j u (h.nextP hp (by omega))).1 h2⟩
    · rintro ⟨k, j, hk, hb, h2⟩
      exact ⟨k, j, hk, hb, (h.ways hs ht n _ _ j u (h.nextP hp (by omega))).2 h2⟩
theorem Ok.leads {s t : Kt} (hs : s.Good) (ht : t.Good) {L : List (List Int)} (h : Ok s.words t.words L) {p q : Int} {st : Nat} {ll : List (List Int)} (hll : ∀ k, k < 3 → Rel st (rowI ll k)) {i u : Nat} (hi : i < st) : s.Leads p q st ll i u ↔ t.Leads p q st ll i u := by
  rw [leads_iff_run hll hs hi, leads_iff_run hll ht hi]
  constructor
  · rintro ⟨n, hn⟩
    exact ⟨n, (runS_one ht n i u).1 ((h.ways hs ht n 1 1 i u h.one).1 ((runS_one hs n i u).2 hn))⟩
  · rintro ⟨n, hn⟩
    exact ⟨n, (runS_one hs n i u).1 ((h.ways hs ht n 1 1 i u h.one).2 ((runS_one ht n i u).2 hn))⟩
theorem Ok.rows {s t : Kt} (hs : s.Good) (ht : t.Good) {L : List (List Int)} (h : Ok s.words t.words L) {p q : Int} {st : Nat} (hst : st ≤ 5) {ll : List (List Int)} (hll : ∀ k, k < 3 → Rel st (rowI ll k)) : s.rows p q st ll = t.rows p q st ll := by
  have r1 := s.rows_rel p q st ll (by omega) hll hs
  have r2 := t.rows_rel p q st ll (by omega) hll ht
  refine ext_natAt _ _ r1.sets r2.sets (by rw [r1.len, r2.len]) fun i hi => bits_eq fun j => ?_
  rw [r1.len] at hi
  exact (leads_iff p q st ll hst hll s hs i hi j).trans ((h.leads hs ht hll hi).trans (leads_iff p q st ll hst hll t ht i hi j).symm)
end Go.Kt
namespace Go.Kt
set_option linter.unusedVariables false
open Go.RowKit

theorem testBit_inTo (r : List Int) (x s : Nat) : ∀ k, (inTo r x k).testBit s = true ↔ s < k ∧ Sub (natAt r s) x
  | 0 => by simp [inTo]
  | k + 1 => by
    by_cases hb : andN (natAt r k) x = natAt r k
    · rw [← inTo_or r x k hb, testBit_orN, Bool.or_eq_true, testBit_inTo r x s k, testBit_pow2, decide_eq_true_eq]
      constructor
      · rintro (⟨h1, h2⟩ | rfl)
        · exact ⟨by omega, h2⟩
        · exact ⟨by omega, sub_of_andN hb⟩
      · rintro ⟨h1, h2⟩
        by_cases hsj : s = k
        · exact .inr hsj.symm
        · exact .inl ⟨by omega, h2⟩
    · simp only [inTo, if_neg hb, Nat.add_zero]
      rw [testBit_inTo r x s k]
      constructor
      · rintro ⟨h1, h2⟩; exact ⟨by omega, h2⟩
      · rintro ⟨h1, h2⟩
        by_cases hsj : s = k
        · subst hsj; exact absurd (andN_of_sub h2) hb
        · exact ⟨by omega, h2⟩
theorem sub_andN {c a b : Nat} (h : Sub c a) (k : Sub c b) : Sub c (andN a b) := fun i hi => by
  rw [testBit_andN, h i hi, k i hi]; rfl
theorem andN_sub (a b : Nat) : Sub (andN a b) a := fun i hi => by
  rw [testBit_andN, Bool.and_eq_true] at hi; exact hi.1
theorem shr_sub (f : Nat → Nat) : ∀ n s, Sub (shr f n s) s
  | 0, s => Sub.refl _
  | n + 1, s => by
    simp only [shr]
    split
    · exact Sub.refl _
    · exact (shr_sub f n _).trans (andN_sub _ _)
theorem shr_end (f : Nat → Nat) : ∀ n s, s ≤ n → andN (shr f n s) (f (shr f n s)) = shr f n s
  | 0, s, h => by
    obtain rfl : s = 0 := by omega
    simp [shr, andN]
  | n + 1, s, h => by
    by_cases hc : andN s (f s) = s
    · rw [shr_fix hc]; exact hc
    · have hlt := andN_lt hc
      simp only [shr, if_neg hc]
      exact shr_end f n _ (by omega)
theorem sub_shr {f : Nat → Nat} {c m : Nat} (mono : ∀ b, b < m → Sub c b → Sub c (f b)) : ∀ n s, s < m → Sub c s → Sub c (shr f n s)
  | 0, s, _, h => h
  | n + 1, s, hm, h => by
    simp only [shr]
    split
    · exact h
    · exact sub_shr mono n _ (Nat.lt_of_le_of_lt (andN_le _ _) hm) (sub_andN h (mono s hm h))
theorem img_sub {b : List Int} {s x : Nat} : Sub (img b s) x ↔ ∀ i, i < b.length → s.testBit i = true → Sub (natAt b i) x :=
  ⟨fun h i hi hs t ht => h t ((testBit_img b s t).2 ⟨i, hi, hs, ht⟩), fun h t ht => by
    obtain ⟨i, h1, h2, h3⟩ := (testBit_img b s t).1 ht
    exact h i h1 h2 t h3⟩
theorem weak_bits (p q : Int) (st : Nat) (ll : List (List Int)) (hst : st ≤ 5) (hll : ∀ i, i < 3 → Rel st (rowI ll i)) : ∀ t : Kt, t.Good → ∀ x, x < 2 ^ st → ∀ k, k < st →
    ((t.weak p q st ll x).testBit k = true ↔ Sub (natAt (t.rows p q st ll) k) x)
  | .leaf s, hg, x, hx, k, hk => by
    by_cases h15 : s ≤ 15
    · simp only [Kt.weak, Kt.rows, if_pos h15]
      rw [natAt_cast (testL_get p q s.toNat st st k hk), testBit_orN]
      have hb := Nat.testBit_two_pow_sub_succ (tsTo_lt p q s.toNat st) k
      rw [show 2 ^ st - 1 - tsTo p q s.toNat st = 2 ^ st - (tsTo p q s.toNat st + 1) by omega, hb]
      unfold testRow
      cases hc : (tsTo p q s.toNat st).testBit k
      · simp [hk, Sub]
      · simp only [Bool.not_true, Bool.and_false, Bool.false_or, if_true]
        constructor
        · intro h i hi
          rw [testBit_pow2, decide_eq_true_eq] at hi
          rw [← hi]; exact h
        · intro h
          exact h k (by rw [testBit_pow2]; simp)
    · simp only [Kt.weak, Kt.rows, if_neg h15]
      rw [testBit_inTo]
      exact ⟨fun h => h.2, fun h => ⟨hk, h⟩⟩
  | .star a, hg, x, hx, k, hk => by
    have hr := a.rows_rel p q st ll (by omega) hll hg
    have ih := weak_bits p q st ll hst hll a hg
    simp only [Kt.weak, Kt.rows]
    rw [natAt_star _ _ k (by rw [hr.len]; exact hk)]
    have hs := shr_sub (a.weak p q st ll) x x
    have he := shr_end (a.weak p q st ll) x x (Nat.le_refl _)
    have hcl := clo_img hr hst (pow2_lt_two hk)
    have hclt := clo_lt hr.lt' (pow2_lt_two hk)
    have hback : Sub (clo (a.rows p q st ll) (pow2 k)) x → Sub (clo (a.rows p q st ll) (pow2 k)) (shr (a.weak p q st ll) x x) := by
      refine sub_shr (m := 2 ^ st) (fun b hb hc i hi => ?_) x x hx
      have hi5 : i < st := testBit_lt hclt hi
      refine (ih b hb i hi5).2 (Sub.trans ?_ hc)
      exact img_sub.1 hcl i (by rw [hr.len]; exact hi5) hi
    have hfore : (shr (a.weak p q st ll) x x).testBit k = true → Sub (clo (a.rows p q st ll) (pow2 k)) x := by
      intro hb
      refine Sub.trans (clo_least _ (x := shr (a.weak p q st ll) x x) ?_ ?_) hs
      · intro i hi
        rw [testBit_pow2, decide_eq_true_eq] at hi
        rw [← hi]; exact hb
      · rw [img_sub]
        intro i hi hbi
        have hSlt : shr (a.weak p q st ll) x x < 2 ^ st := Nat.lt_of_le_of_lt (shr_le _ _ _) hx
        exact (ih _ hSlt i (by rw [← hr.len]; exact hi)).1 (sub_of_andN he i hbi)
    exact ⟨hfore, fun h => hback h k (sub_clo _ _ k (by rw [testBit_pow2]; simp))⟩
  | .two s a b, hg, x, hx, k, hk => by
    have hra := a.rows_rel p q st ll (by omega) hll hg.2.1
    have hrb := b.rows_rel p q st ll (by omega) hll hg.2.2
    have iha := weak_bits p q st ll hst hll a hg.2.1
    have ihb := weak_bits p q st ll hst hll b hg.2.2
    by_cases h20 : s = 20
    · simp only [Kt.weak, Kt.rows, if_pos h20]
      rw [testBit_andN, Bool.and_eq_true, iha x hx k hk, ihb x hx k hk, natAt_plus _ _ _ k (by rw [hra.len]; exact hk)]
      constructor
      · rintro ⟨h1, h2⟩ i hi
        rw [testBit_orN, Bool.or_eq_true] at hi
        exact hi.elim (h1 i) (h2 i)
      · intro h
        exact ⟨fun i hi => h i (by rw [testBit_orN, hi]; rfl), fun i hi => h i (by rw [testBit_orN, hi, Bool.or_true])⟩
    · simp only [Kt.weak, Kt.rows, if_neg h20]
      rw [iha _ (b.weak_lt p q st ll x hx) k hk, natAt_then _ _ _ k (by rw [hra.len]; exact hk), img_sub]
      constructor
      · intro h i hi hb
        exact (ihb x hx i (by rw [← hrb.len]; exact hi)).1 (h i hb)
      · intro h i hb
        have hi : i < st := testBit_lt (hra.lt' k (by rw [hra.len]; exact hk)) hb
        exact (ihb x hx i hi).2 (h i (by rw [hrb.len]; exact hi) hb)

def andnN (a b : Nat) : Nat := a &&& (2 ^ 64 - (b + 1))
theorem andnN_le (a b : Nat) : andnN a b ≤ a := Nat.and_le_left
theorem testBit_andnN (a b i : Nat) (ha : a < 4294967296) (hb : b < 4294967296) : (andnN a b).testBit i = (a.testBit i && !b.testBit i) := by
  unfold andnN
  rw [Nat.testBit_and, Nat.testBit_two_pow_sub_succ (by omega)]
  by_cases hi : i < 64
  · simp [hi]
  · rw [Nat.testBit_lt_two_pow (x := a) (Nat.lt_of_lt_of_le ha (Nat.pow_le_pow_right (n := 2) (i := 32) (by decide) (by omega)))]; simp
theorem i64_andnN (a b : Nat) (ha : a < 4294967296) (hb : b < 4294967296) : bits .andNot .i64 (a : Int) (b : Int) = ((andnN a b : Nat) : Int) := by
  have hx := andnN_le a b
  show IntKind.i64.wrap ((BitVec.ofInt 64 (a : Int) &&& ~~~BitVec.ofInt 64 (b : Int)).toNat : Int) = _
  rw [BitVec.toNat_and, BitVec.toNat_not, ofInt_i64 a (by omega), ofInt_i64 b (by omega), IntKind.wrap_i64]
  have e : 2 ^ 64 - 1 - b = 2 ^ 64 - (b + 1) := by omega
  rw [e]
  show _ = ((andnN a b : Nat) : Int)
  unfold andnN at *
  omega
theorem andnN_zero {a b : Nat} (ha : a < 4294967296) (hb : b < 4294967296) : andnN a b = 0 ↔ andN a b = a := by
  constructor
  · intro h
    apply andN_of_sub
    intro i hi
    have := testBit_andnN a b i ha hb
    rw [h, hi] at this
    simpa using this
  · intro h
    apply Nat.eq_of_testBit_eq
    intro i
    rw [testBit_andnN a b i ha hb]
    cases hi : a.testBit i
    · simp
    · rw [sub_of_andN h i hi]; simp
theorem andnN_all (s t : Nat) (hs : s ≤ 5) (ht : t < 2 ^ s) : andnN (2 ^ s - 1) t = 2 ^ s - 1 - t := by
  have h32 : 2 ^ s ≤ 32 := Nat.pow_le_pow_right (n := 2) (j := 5) (by decide) hs
  apply Nat.eq_of_testBit_eq
  intro i
  rw [testBit_andnN _ _ _ (by omega) (by omega), show 2 ^ s - 1 - t = 2 ^ s - (t + 1) by omega, Nat.testBit_two_pow_sub_succ ht, Nat.testBit_two_pow_sub_one]
end Go.Kt
namespace Go.Proofs.YtlaamecfknkmlaaGreat
set_option linter.unusedVariables false
open Go.RowKit Go.Kt

theorem infoInts : (Tryz.prog.info? 23).map (fun i => (i.zero, i.size, i.bytes)) = some (some (.slice none 0 0), 1, 24) := by kernel_rfl



end Go.Proofs.YtlaamecfknkmlaaGreat
namespace Go.Kt
set_option linter.unusedVariables false

/-- A pair with the trace that leads there. -/
abbrev Way := (Nat × Nat) × List Int
structure WayOk (N M : List (List Int)) (a : Nat) (w : Way) : Prop where
  len : w.2.length = 2 * a
  tok : ∀ j, j < w.2.length → tokB w.2 j = true
  one : w.1 = (runA N w.2 a, runA M w.2 a)
end Go.Kt
namespace Go.Kt
set_option linter.unusedVariables false
theorem length_flat (n k : Nat) (f : Nat → Nat → List Int) : ((List.range n).flatMap fun a => (List.range k).map fun b => f a b).length = n * k := by
  induction n with
  | zero => simp
  | succ n ih => rw [List.range_succ, List.flatMap_append, List.length_append, ih]; simp [Nat.add_mul]
theorem nodup_map {α β : Type} {f : α → β} (hf : ∀ a b, f a = f b → a = b) : ∀ {l : List α}, l.Nodup → (l.map f).Nodup
  | [], _ => by simp
  | x :: l, h => by
    have h' := List.nodup_cons.1 h
    rw [List.map_cons, List.nodup_cons]
    refine ⟨fun hm => ?_, nodup_map hf h'.2⟩
    obtain ⟨y, hy, e⟩ := List.mem_map.1 hm
    rw [hf _ _ e] at hy
    exact h'.1 hy
end Go.Kt
