/- Merged texts: contracts and plain lemmas (A, B, C, Ka, G, I, H, Act, Tv, Yl, Zb, Zc, Zd, Ze, Zi, Nf). -/
import Derived.Test.YtlaamecfknkmlaaGreatRows
import Derived.Test.YtlaamecfknkmlaaGreatGt1
import Derived.BigQuiet
import Derived.Deep.QuietTactic
import Derived.Deep.LoopGhost
import Derived.Deep.RegionLaw
namespace Go.Proofs.YtlaamecfknkmlaaGreat
set_option linter.unusedVariables false
open Go.RowKit Go.Kt

/-- Within bounds. -/
def inB (n a b : Int) : Bool := decide (a ≤ n ∧ n ≤ b)

theorem l1In_c (n a b : Int) (w : World) :
    Calls Tryz.prog 61 #[.int .i64 n, .int .i64 a, .int .i64 b] w fun e w' => e = .returned (.bool (inB n a b)) ∧ w = w' := by
  by_cases h1 : a ≤ n
  all_goals
    go_enter Tryz.func61, Tryz.ntmps61
    go_wp2
    go_ret
    exact ⟨by simp [inB, h1]; try omega, rfl⟩
theorem holds_c (t a : Nat) (w : World) (ht : t < 4294967296) (_ha : a < 60) :
    Calls Tryz.prog 74 #[.int .i64 t, .int .i64 a] w fun e w' => e = .returned (.bool (t.testBit a)) ∧ w = w' := by
  go_enter Tryz.func74, Tryz.ntmps74
  go_wp2
  go_ret
  exact ⟨by rw [← i64_bit_eq t a (by omega)]; rfl, rfl⟩
theorem l1Bit_c (t a : Nat) (w : World) (_ht : t < 4294967296) (_ha : a < 60) :
    Calls Tryz.prog 107 #[.int .i64 t, .int .i64 a] w fun e w' => e = .returned (.int .i64 ((t.testBit a).toNat : Nat)) ∧ w = w' := by
  go_enter Tryz.func107, Tryz.ntmps107
  go_wp2
  go_ret
  exact ⟨by rw [← tmod_bit t a]; rfl, rfl⟩
/-- A set of so many states. -/
def setB (s : Nat) (x : Int) : Bool := decide (0 ≤ x ∧ x < 2 ^ s)

theorem l1Both_c (a b : Nat) (w : World) (ha : a < 4294967296) (hb : b < 4294967296) :
    Calls Tryz.prog 90 #[.int .i64 a, .int .i64 b] w fun e w' => e = .returned (.int .i64 (andN a b : Nat)) ∧ w = w' := by
  go_enter Tryz.func90, Tryz.ntmps90
  go_wp2
  go_loop [5, 6] (fun o i => ∃ k : Nat, k ≤ 32 ∧ i = .int .i64 k ∧ o = .int .i64 (andTo a b k)) (fun _ i => 40 - (intOf i).toNat)
  case atStart => exact ⟨0, by omega, rfl, by rw [andTo_zero]; rfl⟩
  case round =>
    obtain ⟨k, hk, rfl, rfl⟩ := hrel
    have hp := pow_le_big k 32 hk
    have hq := pow_pos' k
    have hle := andTo_le a b k
    have hs := Lib.hid (andTo_succ a b k)
    by_cases h : (2 : Int) ^ k ≤ a ∧ (2 : Int) ^ k ≤ b
    · obtain ⟨h1, h2⟩ := h
      have hk2 : k < 32 := by
        apply Decidable.byContradiction; intro hn
        obtain rfl : k = 32 := by omega
        omega
      cases hA : a.testBit k
      all_goals cases hB : b.testBit k
      all_goals
        go_wp2_with (go_at_call 107; refine (l1Bit_c _ _ _ (by omega) (by omega)).mono ?_; rintro e w' ⟨rfl, rfl⟩)
        go_round
        case rel => exact ⟨k + 1, by omega, by go_num, by rw [hs.out, hA, hB]; simp⟩
        case measure => simp [intOf]; omega
    · have he : andTo a b k = andN a b := andTo_end a b k (by
        rcases Nat.lt_or_ge a (2 ^ k) with h1 | h1
        · exact .inl h1
        · rcases Nat.lt_or_ge b (2 ^ k) with h2 | h2
          · exact .inr h2
          · exact absurd ⟨by exact_mod_cast h1, by exact_mod_cast h2⟩ h)
      have he' := Lib.hid he
      clear he
      by_cases h1 : (2 : Int) ^ k ≤ a
      all_goals
        have h3 : ¬ ((2 : Int) ^ k ≤ b) ∨ ¬ (2 : Int) ^ k ≤ a := by omega
        clear h
        go_wp2
        go_ret
        exact ⟨by rw [← he'.out]; rfl, rfl⟩
theorem l1Either_c (a b : Nat) (w : World) (ha : a < 4294967296) (hb : b < 4294967296) :
    Calls Tryz.prog 122 #[.int .i64 a, .int .i64 b] w fun e w' => e = .returned (.int .i64 (orN a b : Nat)) ∧ w = w' := by
  have hle := andN_le a b
  go_enter Tryz.func122, Tryz.ntmps122
  go_wp2_with fail
  refine (l1Both_c _ _ _ ha hb).mono ?_
  rintro e w1 ⟨rfl, rfl⟩
  have h3 := Lib.hid (orN_add a b)
  go_wp2
  go_ret
  exact ⟨by rw [h3.out]; rfl, rfl⟩
end Go.Proofs.YtlaamecfknkmlaaGreat
namespace Go.Proofs.YtlaamecfknkmlaaGreat
set_option linter.unusedVariables false
open Go.RowKit Go.Kt

end Go.Proofs.YtlaamecfknkmlaaGreat
namespace Go.Proofs.YtlaamecfknkmlaaGreat
set_option linter.unusedVariables false
open Go.RowKit Go.Kt

theorem infoInt : (Tryz.prog.info? 3).map (fun i => (i.zero, i.size, i.bytes)) = some (some (.int .i64 0), 1, 8) := by kernel_rfl

theorem sameInts_d (a a' : Option Addr) (cap cap' : Nat) (l l' : List Int) (w : World) (hl : IntsAt w a l) (hl' : IntsAt w a' l') (hlen : l.length ≤ 4611686018427387904) (hlen' : l'.length ≤ 4611686018427387904) :
    Calls Tryz.prog 32 #[.slice a l.length cap, .slice a' l'.length cap'] w fun e w' => e = .returned (.bool (l == l')) ∧ ∃ m, w' = w.drewN m := by
  obtain ⟨b, off, h1, h2⟩ := hl
  obtain ⟨b', off', h1', h2'⟩ := hl'
  have H1 := Lib.hid h1
  have H2 := Lib.hid h2
  have H1' := Lib.hid h1'
  have H2' := Lib.hid h2'
  clear h1 h2 h1' h2'
  by_cases hn : l.length = l'.length
  · have HN := Lib.hid hn
    have hne : (((l.length : Nat) : Int) != ((l'.length : Nat) : Int)) = false := by simp [hn]
    clear hn
    go_enter Tryz.func32, Tryz.ntmps32
    go_wp2
    go_loopw [5] (fun i wr => Hid (∃ k : Nat, k ≤ l.length ∧ i = .int .i64 k ∧ (∀ j, j < k → nth l j = nth l' j) ∧ ∃ m, wr = w.drewN m)) (fun i _ => l.length - (intOf i).toNat)
    case atStart => exact Lib.hid ⟨0, Nat.zero_le _, rfl, fun j hj => absurd hj (Nat.not_lt_zero _), 0, rfl⟩
    case round =>
      obtain ⟨k, hk, rfl, hno, m, rfl⟩ := hrel.out
      have HD := Lib.hid hno
      clear hrel hno
      by_cases hlt : k < l.length
      · obtain ⟨rfl, hb⟩ := H1.out (by omega)
        obtain ⟨rfl, hb'⟩ := H1'.out (by have := HN.out; omega)
        have hc := H2.out k hlt
        have hlt' : k < l'.length := by have := HN.out; omega
        have hc' := H2'.out k hlt'
        clear H1 H2 H1' H2'
        cases hq : (nth l k != nth l' k)
        all_goals
          go_wp2
          go_quiet (fail)
          go_wp2
        · go_roundw
          case rel => exact Lib.hid ⟨k + 1, by omega, by go_num, upto_succ HD.out (by simpa using hq), by first | exact ⟨_, rfl⟩ | exact drawn2 _ _ _⟩
          case measure => simp [intOf]; omega
        · go_ret
          have hf : (l == l') = false := by rw [beq_eq_false_iff_ne]; rintro rfl; simp at hq
          exact ⟨by rw [hf]; rfl, by first | exact ⟨_, rfl⟩ | exact drawn2 _ _ _⟩
      · obtain rfl : k = l.length := by omega
        have hf := Lib.hid (show (l == l') = true by rw [beq_iff_eq]; exact ext_nth l l' HN.out HD.out)
        go_wp2
        go_ret
        exact ⟨by rw [hf.out]; rfl, _, rfl⟩
  · have hq := Lib.hid (show (l == l') = false by rw [beq_eq_false_iff_ne]; rintro rfl; exact hn rfl)
    have hne : (((l.length : Nat) : Int) != ((l'.length : Nat) : Int)) = true := by simp; omega
    clear hn
    go_enter Tryz.func32, Tryz.ntmps32
    go_wp2
    go_ret
    exact ⟨by rw [hq.out]; rfl, 0, rfl⟩

end Go.Proofs.YtlaamecfknkmlaaGreat
namespace Go.Proofs.YtlaamecfknkmlaaGreat
set_option linter.unusedVariables false
open Go.RowKit Go.Kt

theorem tkK_cases (x : Int) : (x = 19 ∧ tkK x = 2) ∨ (x = 20 ∧ tkK x = 2) ∨ (x = 21 ∧ tkK x = 1) ∨ ((x ≠ 19 ∧ x ≠ 20 ∧ x ≠ 21) ∧ tkK x = 0) := by
  unfold tkK
  by_cases h1 : x = 19
  · exact .inl ⟨h1, if_pos (.inl h1)⟩
  · by_cases h2 : x = 20
    · exact .inr (.inl ⟨h2, if_pos (.inr h2)⟩)
    · by_cases h3 : x = 21
      · exact .inr (.inr (.inl ⟨h3, by rw [if_neg (by omega), if_pos h3]⟩))
      · exact .inr (.inr (.inr ⟨⟨h1, h2, h3⟩, by rw [if_neg (by omega), if_neg h3]⟩))
theorem l2Takes_c (x : Int) (w : World) : Calls Tryz.prog 140 #[.int .i64 x] w fun e w' => e = .returned (.int .i64 (tkK x)) ∧ w = w' := by
  rcases tkK_cases x with ⟨rfl, h⟩ | ⟨rfl, h⟩ | ⟨rfl, h⟩ | ⟨⟨h1, h2, h3⟩, h⟩
  · have H := Lib.hid h
    clear h
    go_enter Tryz.func140, Tryz.ntmps140
    go_wp2
    go_ret
    exact ⟨by rw [H.out]; rfl, rfl⟩
  · have H := Lib.hid h
    clear h
    go_enter Tryz.func140, Tryz.ntmps140
    go_wp2
    go_ret
    exact ⟨by rw [H.out]; rfl, rfl⟩
  · have H := Lib.hid h
    clear h
    go_enter Tryz.func140, Tryz.ntmps140
    go_wp2
    go_ret
    exact ⟨by rw [H.out]; rfl, rfl⟩
  · have H := Lib.hid h
    have e1 : (x == 19) = false := by simp [h1]
    have e2 : (x == 20) = false := by simp [h2]
    have e3 : (x == 21) = false := by simp [h3]
    clear h h1 h2 h3
    go_enter Tryz.func140, Tryz.ntmps140
    go_wp2
    go_ret
    exact ⟨by rw [H.out]; rfl, rfl⟩
theorem takes_c (x : Int) (w : World) : Calls Tryz.prog 126 #[.int .i64 x] w fun e w' => e = .returned (.int .i64 (tkK x)) ∧ w = w' := by
  rcases tkK_cases x with ⟨rfl, h⟩ | ⟨rfl, h⟩ | ⟨rfl, h⟩ | ⟨⟨h1, h2, h3⟩, h⟩
  · have H := Lib.hid h
    clear h
    go_enter Tryz.func126, Tryz.ntmps126
    go_wp2
    go_ret
    exact ⟨by rw [H.out]; rfl, rfl⟩
  · have H := Lib.hid h
    clear h
    go_enter Tryz.func126, Tryz.ntmps126
    go_wp2
    go_ret
    exact ⟨by rw [H.out]; rfl, rfl⟩
  · have H := Lib.hid h
    clear h
    go_enter Tryz.func126, Tryz.ntmps126
    go_wp2
    go_ret
    exact ⟨by rw [H.out]; rfl, rfl⟩
  · have H := Lib.hid h
    have e1 : (x == 19) = false := by simp [h1]
    have e2 : (x == 20) = false := by simp [h2]
    have e3 : (x == 21) = false := by simp [h3]
    clear h h1 h2 h3
    go_enter Tryz.func126, Tryz.ntmps126
    go_wp2
    go_ret
    exact ⟨by rw [H.out]; rfl, rfl⟩

set_option maxRecDepth 100000 in
theorem sKatValid_c (a : Option Addr) (cap : Nat) (l : List Int) (w : World) (hl : IntsAt w a l) (hlen : l.length ≤ 4194304) :
    Calls Tryz.prog 83 #[.slice a l.length cap] w fun e w' => e = .returned (.bool (kvB l)) ∧ w = w' := by
  obtain ⟨b, off, h1, h2⟩ := hl
  have H1 := Lib.hid h1
  have H2 := Lib.hid h2
  clear h1 h2
  go_enter Tryz.func83, Tryz.ntmps83
  go_wp2
  go_loop [3, 4] (fun mv i => Hid (∃ k m : Nat, k ≤ l.length ∧ i = .int .i64 k ∧ mv = .int .i64 m ∧ m ≤ k ∧ mnyK l k = some m)) (fun _ i => l.length - (intOf i).toNat)
  case atStart => exact Lib.hid ⟨0, 0, Nat.zero_le _, rfl, rfl, Nat.le_refl _, rfl⟩
  case round =>
    obtain ⟨k, m, hk, rfl, rfl, hmk, hm⟩ := hrel.out
    clear hrel
    by_cases hlt : k < l.length
    · obtain ⟨rfl, hb⟩ := H1.out (by omega)
      have hc := H2.out k hlt
      have hbad : Hid (BadK (nth l k) m → kvB l = false) := fun h => kvB_none (k := k + 1) (by omega) (mnyK_bad hm h)
      have hgood : Hid (¬ BadK (nth l k) m → mnyK l (k + 1) = some (m - (tkK (nth l k)).toNat + 1)) := fun h => mnyK_good hm h
      have hr := tkK_range (nth l k)
      have hcall : ∀ w0 : World, Calls Tryz.prog 140 #[.int .i64 (nth l k)] w0 fun e w' => e = .returned (.int .i64 (tkK (nth l k))) ∧ w0 = w' := fun w0 => l2Takes_c _ w0
      have HC := Lib.hid hcall
      have hbd : BadK (nth l k) m ↔ (nth l k < 0 ∨ 21 < nth l k ∨ (m : Int) < tkK (nth l k)) := Iff.rfl
      have HBD := Lib.hid hbd
      clear hm hcall hbd
      generalize hB : BadK (nth l k) m = Bad at *
      generalize tkK (nth l k) = T at *
      generalize nth l k = x at *
      by_cases hx : 0 ≤ x ∧ x ≤ 21
      · have hin : inB x 0 21 = true := by simp [inB]; omega
        by_cases hT : (m : Int) < T
        · have HV := Lib.hid (hbad.out (HBD.out.2 (.inr (.inr hT))))
          clear hbad hgood
          go_wp2_with (first | (go_at_call 61; refine (l1In_c _ _ _ _).mono ?_; rintro e w' ⟨rfl, rfl⟩) | (go_at_call 140; refine (HC.out _).mono ?_; rintro e w' ⟨rfl, rfl⟩) | fail)
          go_ret
          exact ⟨by rw [HV.out]; rfl, rfl⟩
        · have hg := Lib.hid (hgood.out fun h => by rcases HBD.out.1 h with h | h | h <;> omega)
          clear hbad hgood
          go_wp2_with (first | (go_at_call 61; refine (l1In_c _ _ _ _).mono ?_; rintro e w' ⟨rfl, rfl⟩) | (go_at_call 140; refine (HC.out _).mono ?_; rintro e w' ⟨rfl, rfl⟩) | fail)
          go_round
          case rel => exact Lib.hid ⟨k + 1, m - T.toNat + 1, by omega, by go_num, by congr 1; omega, by omega, hg.out⟩
          case measure => simp [intOf]; omega
      · have hin : inB x 0 21 = false := by simp [inB]; omega
        have HV := Lib.hid (hbad.out (HBD.out.2 (by omega)))
        clear hbad hgood
        go_wp2_with (first | (go_at_call 61; refine (l1In_c _ _ _ _).mono ?_; rintro e w' ⟨rfl, rfl⟩) | (go_at_call 140; refine (HC.out _).mono ?_; rintro e w' ⟨rfl, rfl⟩) | fail)
        go_ret
        exact ⟨by rw [HV.out]; rfl, rfl⟩
    · obtain rfl : k = l.length := by omega
      by_cases hn : 1 ≤ l.length ∧ l.length ≤ 40
      · have hv := Lib.hid (kvB_end hn hm)
        have hin : inB (l.length : Int) 1 40 = true := by simp [inB]; omega
        have hq : ((m : Int) == 1) = (m == 1) := by rw [Bool.eq_iff_iff]; simp; omega
        clear hm hn
        go_wp2_with (go_at_call 61; refine (l1In_c _ _ _ _).mono ?_; rintro e w' ⟨rfl, rfl⟩)
        go_ret
        exact ⟨by rw [hv.out, ← hq]; rfl, rfl⟩
      · have hv := Lib.hid (kvB_out hn)
        have hin : inB (l.length : Int) 1 40 = false := by simp [inB]; omega
        clear hm hn
        go_wp2_with (go_at_call 61; refine (l1In_c _ _ _ _).mono ?_; rintro e w' ⟨rfl, rfl⟩)
        go_ret
        exact ⟨by rw [hv.out]; rfl, rfl⟩
set_option maxRecDepth 100000 in
theorem iKatValid_c (a : Option Addr) (cap : Nat) (l : List Int) (w : World) (hl : IntsAt w a l) (hlen : l.length ≤ 4194304) :
    Calls Tryz.prog 67 #[.slice a l.length cap] w fun e w' => e = .returned (.bool (kvB l)) ∧ w = w' := by
  by_cases hn : 1 ≤ l.length ∧ l.length ≤ 40
  · have hn1 : 1 ≤ l.length := hn.1
    have hn2 : l.length ≤ 40 := hn.2
    have HN := Lib.hid hn
    obtain ⟨b, off, h1, h2⟩ := hl
    obtain ⟨rfl, hb⟩ := h1 (by omega)
    have H2 := Lib.hid h2
    clear h1 h2 hn
    go_enter Tryz.func67, Tryz.ntmps67
    go_wp2
    go_loop [3, 16] (fun mv i => Hid (∃ k m : Nat, k ≤ l.length ∧ i = .int .i64 k ∧ mv = .int .i64 m ∧ m ≤ k ∧ mnyK l k = some m)) (fun _ i => l.length - (intOf i).toNat)
    case atStart => exact Lib.hid ⟨0, 0, Nat.zero_le _, rfl, rfl, Nat.le_refl _, rfl⟩
    case round =>
      obtain ⟨k, m, hk, rfl, rfl, hmk, hm⟩ := hrel.out
      clear hrel
      by_cases hlt : k < l.length
      · have hc := H2.out k hlt
        have hbad : Hid (BadK (nth l k) m → kvB l = false) := fun h => kvB_none (k := k + 1) (by omega) (mnyK_bad hm h)
        have hgood : Hid (¬ BadK (nth l k) m → mnyK l (k + 1) = some (m - (tkK (nth l k)).toNat + 1)) := fun h => mnyK_good hm h
        have hr := tkK_range (nth l k)
        have hcall : ∀ w0 : World, Calls Tryz.prog 126 #[.int .i64 (nth l k)] w0 fun e w' => e = .returned (.int .i64 (tkK (nth l k))) ∧ w0 = w' := fun w0 => takes_c _ w0
        have HC := Lib.hid hcall
        have hbd : BadK (nth l k) m ↔ (nth l k < 0 ∨ 21 < nth l k ∨ (m : Int) < tkK (nth l k)) := Iff.rfl
        have HBD := Lib.hid hbd
        clear hm hcall hbd
        generalize hB : BadK (nth l k) m = Bad at *
        generalize tkK (nth l k) = T at *
        generalize nth l k = x at *
        by_cases hx : x < 0
        · have HV := Lib.hid (hbad.out (HBD.out.2 (.inl hx)))
          clear hbad hgood
          go_wp2_with (first | (go_at_call 126; refine (HC.out _).mono ?_; rintro e w' ⟨rfl, rfl⟩) | fail)
          go_ret
          exact ⟨by rw [HV.out]; rfl, rfl⟩
        · by_cases hx2 : 21 < x
          · have HV := Lib.hid (hbad.out (HBD.out.2 (.inr (.inl hx2))))
            clear hbad hgood
            go_wp2_with (first | (go_at_call 126; refine (HC.out _).mono ?_; rintro e w' ⟨rfl, rfl⟩) | fail)
            go_ret
            exact ⟨by rw [HV.out]; rfl, rfl⟩
          · by_cases hT : (m : Int) < T
            · have HV := Lib.hid (hbad.out (HBD.out.2 (.inr (.inr hT))))
              clear hbad hgood
              go_wp2_with (first | (go_at_call 126; refine (HC.out _).mono ?_; rintro e w' ⟨rfl, rfl⟩) | fail)
              go_ret
              exact ⟨by rw [HV.out]; rfl, rfl⟩
            · have hg := Lib.hid (hgood.out fun h => by rcases HBD.out.1 h with h | h | h <;> omega)
              clear hbad hgood
              go_wp2_with (first | (go_at_call 126; refine (HC.out _).mono ?_; rintro e w' ⟨rfl, rfl⟩) | fail)
              go_round
              case rel => exact Lib.hid ⟨k + 1, m - T.toNat + 1, by omega, by go_num, by congr 1; omega, by omega, hg.out⟩
              case measure => simp [intOf]; omega
      · obtain rfl : k = l.length := by omega
        have hv := Lib.hid (kvB_end HN.out hm)
        have hq : ((m : Int) == 1) = (m == 1) := by rw [Bool.eq_iff_iff]; simp; omega
        clear hm
        go_wp2
        go_ret
        exact ⟨by rw [hv.out, ← hq]; rfl, rfl⟩
  · have hv := Lib.hid (kvB_out hn)
    by_cases h1 : 1 ≤ l.length
    all_goals
      clear hl
      go_enter Tryz.func67, Tryz.ntmps67
      go_wp2
      go_ret
      exact ⟨by rw [hv.out]; rfl, rfl⟩
theorem l2Span_c (a : Option Addr) (cap : Nat) (l : List Int) (t : Kt) (o last : Nat) (w : World) (hl : IntsAt w a l) (hg : t.Good) (hs : SegK l o t.words) (hn : o + t.words.length = last + 1) (hlt : last < l.length) (hlen : l.length ≤ 4194304) :
    Calls Tryz.prog 167 #[.slice a l.length cap, .int .i64 last] w fun e w' => e = .returned (.int .i64 o) ∧ w = w' := by
  obtain ⟨b, off, h1, h2⟩ := hl
  obtain ⟨rfl, hb⟩ := h1 (by omega)
  have H2 := Lib.hid h2
  have hpos := t.words_pos
  have HN := Lib.hid (needK_seg l t hg o hs 1)
  rw [hn] at HN
  clear h1 h2 hg hs
  go_enter Tryz.func167, Tryz.ntmps167
  go_wp2
  go_loop [5, 6] (fun nv av => Hid (∃ j : Nat, j ≤ t.words.length ∧ av = .int .i64 ((last + 1 - j : Nat) : Int) ∧ nv = .int .i64 (needK l (last + 1) 1 j))) (fun _ av => (intOf av).toNat)
  case atStart => exact Lib.hid ⟨0, Nat.zero_le _, by simp, rfl⟩
  case round =>
    obtain ⟨j, hj, rfl, rfl⟩ := hrel.out
    clear hrel
    by_cases hlt2 : j < t.words.length
    · have hge := HN.out.1 j hlt2
      have hle := (needK_le l (last + 1) 1 (by decide) j).2
      obtain ⟨p, hp⟩ : ∃ p, last + 1 - j = p + 1 := ⟨last - j, by omega⟩
      have hstep : Hid (needK l (last + 1) 1 (j + 1) = needK l (last + 1) 1 j - 1 + tkK (nth l p)) := by
        unfold Hid; simp only [needK]; rw [show last + 1 - 1 - j = p by omega]
      have hc := H2.out p (by omega)
      have hr := tkK_range (nth l p)
      have hcall : ∀ w0 : World, Calls Tryz.prog 140 #[.int .i64 (nth l p)] w0 fun e w' => e = .returned (.int .i64 (tkK (nth l p))) ∧ w0 = w' := fun w0 => l2Takes_c _ w0
      have HC := Lib.hid hcall
      have hpl : p < l.length := by omega
      rw [hp]
      clear hcall
      generalize needK l (last + 1) 1 j = N at *
      generalize tkK (nth l p) = T at *
      generalize nth l p = x at *
      go_wp2_with (first | (go_at_call 140; refine (HC.out _).mono ?_; rintro e w' ⟨rfl, rfl⟩) | fail)
      go_round
      case rel => exact Lib.hid ⟨j + 1, by omega, by congr 1; omega, by rw [hstep.out]⟩
      case measure => simp [intOf]
    · obtain rfl : j = t.words.length := by omega
      have h0 := HN.out.2
      have ho : ((last + 1 - t.words.length : Nat) : Int) = o := by omega
      rw [h0, ho]
      go_wp2
      go_ret
      exact ⟨rfl, rfl⟩
/-- Both halves of an expression that ends with a step that takes two. -/
theorem l2Halves_c (b : Nat) (off cap : Nat) (l : List Int) (t : Kt) (o : Nat) (w : World) (hl : IntsAt w (some ⟨b, off, none⟩) l) (hg : t.Good) (hs : SegK l o t.words) (hn : o + t.words.length + 1 = l.length) (hcap : l.length ≤ cap) (hlen : l.length ≤ 4194304) :
    Calls Tryz.prog 143 #[.slice (some ⟨b, off, none⟩) l.length cap] w fun e w' => e = .returned (.tuple #[.slice (some ⟨b, off, none⟩) o cap, .slice (some ⟨b, off + o, none⟩) t.words.length (cap - o)]) ∧ w' = w.drew := by
  have hpos := t.words_pos
  have hw1 : IntKind.i64.wrap ((l.length : Int) - 1) = ((l.length - 1 : Nat) : Int) := by rw [IntWalk.i64_in _ (by omega)]; omega
  have hw2 : IntKind.i64.wrap (((l.length - 1 : Nat) : Int) - 1) = ((l.length - 2 : Nat) : Int) := by rw [IntWalk.i64_in _ (by omega)]; omega
  have hc := l2Span_c (some ⟨b, off, none⟩) cap l t o (l.length - 2) w hl hg hs (by omega) (by omega) hlen
  have HC := Lib.hid hc
  clear hl hg hs hc
  obtain ⟨p, hp⟩ : ∃ p, l.length - 1 = p := ⟨_, rfl⟩
  have hop : o ≤ p := by omega
  have hpc : p ≤ cap := by omega
  have hoc : o ≤ cap := by omega
  have hco : ¬ cap - o = 0 := by omega
  have hpo : p - o = t.words.length := by omega
  rw [hp] at hw1 hw2
  go_enter Tryz.func143, Tryz.ntmps143
  go_wp2_with (first | (go_at_call 167; refine HC.out.mono ?_; rintro e w' ⟨rfl, rfl⟩) | fail)
  go_region
  go_wp2
  go_ret2
  exact ⟨rfl, rfl⟩
end Go.Proofs.YtlaamecfknkmlaaGreat
namespace Go.Proofs.YtlaamecfknkmlaaGreat
set_option linter.unusedVariables false
open Go.RowKit Go.Kt

/-- What slices.IndexFunc answers over rows. -/
def findR (p : List Int → Bool) (l : List (List Int)) : Int := if l.any p then ((l.findIdx p : Nat) : Int) else -1
theorem findR_none (p : List Int → Bool) (l : List (List Int)) (h : ∀ j, j < l.length → p (rowI l j) = false) : findR p l = -1 := by
  unfold findR
  rw [if_neg]
  rw [List.any_eq_true]
  rintro ⟨x, hx, hp⟩
  obtain ⟨j, hj, rfl⟩ := List.getElem_of_mem hx
  have := h j hj
  rw [rowI_getElem l j hj] at this
  rw [this] at hp; cases hp
theorem findR_at (p : List Int → Bool) (l : List (List Int)) (k : Nat) (hk : k < l.length) (h : ∀ j, j < k → p (rowI l j) = false) (hp : p (rowI l k) = true) : findR p l = k := by
  unfold findR
  rw [rowI_getElem l k hk] at hp
  rw [if_pos (List.any_eq_true.2 ⟨_, List.getElem_mem hk, hp⟩)]
  congr 1
  rw [List.findIdx_eq hk]
  refine ⟨hp, fun j hj => ?_⟩
  have := h j hj
  rwa [rowI_getElem l j (by omega)] at this
theorem findR_nonneg (p : List Int → Bool) (l : List (List Int)) : decide (0 ≤ findR p l) = l.any p := by
  unfold findR
  cases l.any p <;> simp

end Go.Proofs.YtlaamecfknkmlaaGreat
namespace Go.Proofs.YtlaamecfknkmlaaGreat
set_option linter.unusedVariables false
open Go.RowKit Go.Kt

theorem iTestValid_c (t : Int) (w : World) :
    Calls Tryz.prog 93 #[.int .i64 t] w fun e w' => e = .returned (.bool (inB t 0 15)) ∧ w = w' := by
  by_cases h1 : 0 ≤ t
  all_goals
    go_enter Tryz.func93, Tryz.ntmps93
    go_wp2
    go_ret
    exact ⟨by simp [inB, h1]; try omega, rfl⟩
theorem sTestValid_c (t : Int) (w : World) :
    Calls Tryz.prog 147 #[.int .i64 t] w fun e w' => e = .returned (.bool (inB t 0 15)) ∧ w = w' := by
  go_enter Tryz.func147, Tryz.ntmps147
  go_wp2_with (go_at_call 61; refine (l1In_c _ _ _ _).mono ?_; rintro e w' ⟨rfl, rfl⟩)
  go_ret
  exact ⟨rfl, rfl⟩
/-- TestNot. -/
def notF (t : Int) : Int := if inB t 0 15 then 15 - t else -1
theorem andNot15 (t : Nat) (h : t ≤ 15) : bits .andNot .i64 15 (t : Int) = 15 - (t : Int) := by
  have : t = 0 ∨ t = 1 ∨ t = 2 ∨ t = 3 ∨ t = 4 ∨ t = 5 ∨ t = 6 ∨ t = 7 ∨ t = 8 ∨ t = 9 ∨ t = 10 ∨ t = 11 ∨ t = 12 ∨ t = 13 ∨ t = 14 ∨ t = 15 := by omega
  rcases this with rfl | rfl | rfl | rfl | rfl | rfl | rfl | rfl | rfl | rfl | rfl | rfl | rfl | rfl | rfl | rfl <;> rfl
theorem iTestNot_c (t : Int) (w : World) :
    Calls Tryz.prog 64 #[.int .i64 t] w fun e w' => e = .returned (.int .i64 (notF t)) ∧ w = w' := by
  cases h : inB t 0 15
  · have HF : Hid (notF t = -1) := by unfold Hid notF; rw [h]; rfl
    go_enter Tryz.func64, Tryz.ntmps64
    go_wp2_with (go_at_call 93; refine (iTestValid_c _ _).mono ?_; rintro e w' ⟨rfl, rfl⟩)
    go_ret
    exact ⟨by rw [HF.out]; rfl, rfl⟩
  · have hb : 0 ≤ t ∧ t ≤ 15 := by simpa [inB] using h
    obtain ⟨T, rfl⟩ := Int.eq_ofNat_of_zero_le hb.1
    have HF : Hid (notF T = 15 - (T : Int)) := by unfold Hid notF; rw [h]; rfl
    have ha := andNot15 T (by omega)
    go_enter Tryz.func64, Tryz.ntmps64
    go_wp2_with (go_at_call 93; refine (iTestValid_c _ _).mono ?_; rintro e w' ⟨rfl, rfl⟩)
    go_ret
    exact ⟨by rw [HF.out]; rfl, rfl⟩

end Go.Proofs.YtlaamecfknkmlaaGreat
namespace Go.Proofs.YtlaamecfknkmlaaGreat
set_option linter.unusedVariables false
open Go.RowKit Go.Kt

theorem infoInts : (Tryz.prog.info? 23).map (fun i => (i.zero, i.size, i.bytes)) = some (some (.slice none 0 0), 1, 24) := by kernel_rfl



end Go.Proofs.YtlaamecfknkmlaaGreat
namespace Go.Proofs.YtlaamecfknkmlaaGreat
set_option linter.unusedVariables false
open Go.RowKit Go.Kt

theorem actB_c (t : Int) (w : World) :
    Calls Tryz.prog 128 #[.int .i64 t] w fun e w' => e = .returned (.bool (inB t 16 18)) ∧ w = w' := by
  by_cases h1 : 16 ≤ t
  all_goals
    go_enter Tryz.func128, Tryz.ntmps128
    go_wp2
    go_ret
    exact ⟨by simp [inB, h1]; try omega, rfl⟩
theorem cloneI_c (a : Option Addr) (cap : Nat) (l : List Int) (w : World) (hl : IntsAt w a l) (hn : 0 < l.length) (hlen : l.length ≤ 4194304) :
    Calls Tryz.prog 135 #[.slice a l.length cap] w (RetI 3 w l) := by
  have HL := Lib.hid hl
  obtain ⟨b, off, h1, -⟩ := hl
  obtain ⟨rfl, hb⟩ := h1 hn
  have hnil : ∀ W : World, (binOp .eql 23 (.slice (some ⟨b, off, none⟩) l.length cap) (.slice none 0 0)).run Tryz.prog W = .ok (.bool false) W := fun W => Lib.run_eql_slice_nil W _ _ (some ⟨b, off, none⟩) l.length cap 0 0 Tryz.underlying23
  clear h1
  go_enter Tryz.func135, Tryz.ntmps135
  go_wp2_with (at_builtin; refine any_append_ints (by rfl) _ _ _ rfl w.heap.size 3 Tryz.underlying23 infoInt _ [] rfl ?ho _ _ l rfl ?hi ?hc ?hB ?_)
  case ho => exact OwnI.empty _ _
  case hi => exact HL.out.ext (by (repeat (first | exact Ext.refl _ | assumption | refine Ext.alloc ?_ _ | refine Ext.drewN ?_ _ | refine Ext.drew ?_)))
  case hc => simp; omega
  case hB => simp
  intro v' w' ho' hg'
  have hx' := OwnI.grown (OwnI.empty w 3) (by (repeat (first | exact Ext.refl _ | assumption | refine Ext.alloc ?_ _ | refine Ext.drewN ?_ _ | refine Ext.drew ?_))) hg'
  have HO := Lib.hid ho'
  clear ho' hg'
  go_wp2
  go_ret
  exact ⟨_, rfl, HO.out, hx'⟩
end Go.Proofs.YtlaamecfknkmlaaGreat
namespace Go.Kt
set_option linter.unusedVariables false
/-- The i-th number of a trace is an atom or an action. -/
def inR (n a b : Int) : Bool := decide (a ≤ n ∧ n ≤ b)
def tokB (l : List Int) (i : Nat) : Bool := if i % 2 = 0 then inR (nth l i) 0 3 else inR (nth l i) 16 18
def tvB (l : List Int) : Bool := decide (l.length % 2 = 1 ∧ l.length ≤ 41) && (List.range l.length).all (tokB l)
theorem tvB_all {l : List Int} (h : ∀ j, j < l.length → tokB l j = true) : tvB l = decide (l.length % 2 = 1 ∧ l.length ≤ 41) := by
  unfold tvB
  rw [show (List.range l.length).all (tokB l) = true from List.all_eq_true.2 fun j hj => h j (List.mem_range.1 hj), Bool.and_true]
theorem tvB_bad {l : List Int} {k : Nat} (hk : k < l.length) (h : tokB l k = false) : tvB l = false := by
  unfold tvB
  rw [show (List.range l.length).all (tokB l) = false from List.all_eq_false.2 ⟨k, List.mem_range.2 hk, by simp [h]⟩, Bool.and_false]
theorem tvB_len {l : List Int} (h : tvB l = true) : l.length % 2 = 1 ∧ l.length ≤ 41 := by
  unfold tvB at h
  rw [Bool.and_eq_true, decide_eq_true_eq] at h
  exact h.1
theorem tvB_tok {l : List Int} (h : tvB l = true) {k : Nat} (hk : k < l.length) : tokB l k = true := by
  unfold tvB at h
  rw [Bool.and_eq_true, List.all_eq_true] at h
  exact h.2 k (List.mem_range.2 hk)
theorem tokB_even {l : List Int} {k : Nat} (h : k % 2 = 0) : tokB l k = inR (nth l k) 0 3 := if_pos h
theorem tokB_odd {l : List Int} {k : Nat} (h : k % 2 = 1) : tokB l k = inR (nth l k) 16 18 := if_neg (by omega)
end Go.Kt
namespace Go.Proofs.YtlaamecfknkmlaaGreat
set_option linter.unusedVariables false
open Go.RowKit Go.Kt

theorem isAtom_c (t : Int) (w : World) :
    Calls Tryz.prog 127 #[.int .i64 t] w fun e w' => e = .returned (.bool (inB t 0 3)) ∧ w = w' := by
  by_cases h1 : 0 ≤ t
  all_goals
    go_enter Tryz.func127, Tryz.ntmps127
    go_wp2
    go_ret
    exact ⟨by simp [inB, h1]; try omega, rfl⟩
set_option maxHeartbeats 1000000 in
theorem iTraceValid_c (a : Option Addr) (cap : Nat) (l : List Int) (w : World) (hl : IntsAt w a l) (hlen : l.length ≤ 4194304) :
    Calls Tryz.prog 68 #[.slice a l.length cap] w fun e w' => e = .returned (.bool (tvB l)) ∧ w = w' := by
  have hmm : (l.length : Int) % 2 = ((l.length % 2 : Nat) : Int) := by omega
  by_cases hm : l.length % 2 = 1
  · have hm1 : (((l.length : Int) % 2) != 1) = false := by rw [hmm, hm]; rfl
    by_cases h41 : l.length ≤ 41
    · obtain ⟨b, off, h1, h2⟩ := hl
      obtain ⟨rfl, hb⟩ := h1 (by omega)
      have H2 := Lib.hid h2
      have HD : Hid ((∀ j, j < l.length → tokB l j = true) → tvB l = true) := fun h => by rw [tvB_all h, decide_eq_true ⟨hm, h41⟩]
      have HB : Hid (∀ k, k < l.length → tokB l k = false → tvB l = false) := fun k hk h => tvB_bad hk h
      clear h1 h2 hm hmm
      go_enter Tryz.func68, Tryz.ntmps68
      go_wp2
      go_loop [16] (fun i => Hid (∃ k : Nat, k ≤ l.length ∧ i = .int .i64 k ∧ (∀ j, j < k → tokB l j = true))) (fun i => l.length - (intOf i).toNat)
      case atStart => exact Lib.hid ⟨0, Nat.zero_le _, rfl, fun j hj => absurd hj (Nat.not_lt_zero _)⟩
      case round =>
        obtain ⟨k, hk, rfl, hno⟩ := hrel.out
        have HN := Lib.hid hno
        clear hrel hno
        by_cases hlt : k < l.length
        · have hc := H2.out k hlt
          have HB1 : Hid (tokB l k = false → tvB l = false) := HB.out k hlt
          rcases Nat.mod_two_eq_zero_or_one k with hp | hp
          · have m0 : ((k : Int) % 2 == 0) = true := by have : (k : Int) % 2 = 0 := by omega
                                                        rw [this]; rfl
            have m1 : ((k : Int) % 2 == 1) = false := by have : (k : Int) % 2 = 0 := by omega
                                                         rw [this]; rfl
            have HT : Hid (tokB l k = inB (nth l k) 0 3) := tokB_even hp
            clear hp
            generalize nth l k = y at *
            cases hy : inB y 0 3
            · have HF := Lib.hid (HB1.out (HT.out.trans hy))
              go_wp2_with (go_at_call 127; refine (isAtom_c _ _).mono ?_; rw [hy]; rintro e w' ⟨rfl, rfl⟩)
              go_ret
              exact ⟨by rw [HF.out]; rfl, rfl⟩
            · have HT2 := Lib.hid (HT.out.trans hy)
              go_wp2_with (go_at_call 127; refine (isAtom_c _ _).mono ?_; rw [hy]; rintro e w' ⟨rfl, rfl⟩)
              go_round
              case rel => exact Lib.hid ⟨k + 1, by omega, by go_num, upto_succ HN.out HT2.out⟩
              case measure => simp [intOf]; omega
          · have m0 : ((k : Int) % 2 == 0) = false := by have : (k : Int) % 2 = 1 := by omega
                                                         rw [this]; rfl
            have m1 : ((k : Int) % 2 == 1) = true := by have : (k : Int) % 2 = 1 := by omega
                                                        rw [this]; rfl
            have HT : Hid (tokB l k = inB (nth l k) 16 18) := tokB_odd hp
            clear hp
            generalize nth l k = y at *
            cases hy : inB y 16 18
            · have HF := Lib.hid (HB1.out (HT.out.trans hy))
              go_wp2_with (go_at_call 128; refine (actB_c _ _).mono ?_; rw [hy]; rintro e w' ⟨rfl, rfl⟩)
              go_ret
              exact ⟨by rw [HF.out]; rfl, rfl⟩
            · have HT2 := Lib.hid (HT.out.trans hy)
              go_wp2_with (go_at_call 128; refine (actB_c _ _).mono ?_; rw [hy]; rintro e w' ⟨rfl, rfl⟩)
              go_round
              case rel => exact Lib.hid ⟨k + 1, by omega, by go_num, upto_succ HN.out HT2.out⟩
              case measure => simp [intOf]; omega
        · obtain rfl : k = l.length := by omega
          have HF := Lib.hid (HD.out HN.out)
          go_wp2
          go_ret
          exact ⟨by rw [HF.out]; rfl, rfl⟩
    · have HF : Hid (tvB l = false) := by unfold Hid tvB; rw [decide_eq_false (by omega)]; rfl
      clear hm hmm
      go_enter Tryz.func68, Tryz.ntmps68
      go_wp2
      go_ret
      exact ⟨by rw [HF.out]; rfl, rfl⟩
  · have hm1 : (((l.length : Int) % 2) != 1) = true := by
      have : (l.length : Int) % 2 = 0 := by omega
      rw [this]; rfl
    have HF : Hid (tvB l = false) := by unfold Hid tvB; rw [decide_eq_false (by omega)]; rfl
    clear hm hmm
    go_enter Tryz.func68, Tryz.ntmps68
    go_wp2
    go_ret
    exact ⟨by rw [HF.out]; rfl, rfl⟩
end Go.Proofs.YtlaamecfknkmlaaGreat
namespace Go.Kt
set_option linter.unusedVariables false

def treeW (l : List Int) : Kt := (runK l []).headD (.leaf 0)
theorem treeW_words {t : Kt} (h : t.Good) : treeW t.words = t := by unfold treeW; rw [runK_words t h]; rfl
/-- What is left behind so many steps of a trace. -/
def setL (e tr : List Int) : Nat → List (List Int)
  | 0 => [e]
  | k + 1 => ordL ((setL e tr k).flatMap fun p => partsL (nth tr (2 * k)).toNat (nth tr (2 * k + 1)) (treeW p))
def tbB (e tr : List Int) : Bool := kvB e && (tvB tr && (setL e tr (tr.length / 2)).any fun p => (treeW p).ends.testBit (nth tr (tr.length - 1)).toNat)
theorem len_sub {A L : List (List Int)} (hA : Asc A) (h : ∀ x, x ∈ A → x ∈ L) : A.length ≤ L.length := by
  have e : A = (ordL L).filter (fun x => decide (x ∈ A)) := by
    refine asc_unique hA ((asc_ordL L).filter _) fun x => ?_
    rw [List.mem_filter, mem_ordL, decide_eq_true_eq]
    exact ⟨fun hx => ⟨h x hx, hx⟩, fun hx => hx.2⟩
  have h1 := List.length_filter_le (fun x => decide (x ∈ A)) (ordL L)
  rw [← e] at h1
  have := length_ordL L
  omega
/-- Expressions left of t. -/
def Left (t : Kt) (p : List Int) : Prop := ∃ q : Kt, q.Good ∧ q.words = p ∧ (q = t ∨ q ∈ t.pd)
theorem left_part {t : Kt} (hg : t.Good) {p x : List Int} {A : Nat} {act : Int} (ha : 16 ≤ act) (hp : Left t p) (hx : x ∈ partsL A act (treeW p)) : ∃ q, q ∈ t.pd ∧ q.words = x := by
  obtain ⟨q, hq, rfl, h⟩ := hp
  rw [treeW_words hq] at hx
  obtain ⟨r, hr, rfl⟩ := mem_partsL.1 hx
  rcases h with rfl | h
  · exact ⟨r, part_pd A act ha _ r hr, rfl⟩
  · exact ⟨r, pd_closed A act ha t q h r hr, rfl⟩
theorem left_set {t : Kt} (hg : t.Good) {tr : List Int} (hv : tvB tr = true) : ∀ k, 2 * k + 1 ≤ tr.length → ∀ p, p ∈ setL t.words tr k → Left t p
  | 0, _, p, hp => by
    simp [setL] at hp; subst hp
    exact ⟨t, hg, rfl, .inl rfl⟩
  | k + 1, hk, p, hp => by
    unfold setL at hp
    rw [mem_ordL, List.mem_flatMap] at hp
    obtain ⟨p', hp', hx⟩ := hp
    have ha : 16 ≤ nth tr (2 * k + 1) := by
      have := tvB_tok hv (k := 2 * k + 1) (by omega)
      rw [tokB_odd (by omega)] at this
      simp [inR] at this; omega
    obtain ⟨q, hq, rfl⟩ := left_part hg ha (left_set hg hv k (by omega) p' hp') hx
    exact ⟨q, pd_good t hg q hq, rfl, .inr hq⟩
theorem set_len {t : Kt} (hg : t.Good) (hw : t.words.length ≤ 40) {tr : List Int} (hv : tvB tr = true) : ∀ k, 2 * k + 1 ≤ tr.length → (setL t.words tr k).length ≤ 40
  | 0, _ => by simp [setL]
  | k + 1, hk => by
    have h1 : (setL t.words tr (k + 1)).length ≤ (t.pd.map Kt.words).length := by
      refine len_sub (asc_ordL _) fun x hx => ?_
      unfold setL at hx
      rw [mem_ordL, List.mem_flatMap] at hx
      obtain ⟨p', hp', hx⟩ := hx
      have ha : 16 ≤ nth tr (2 * k + 1) := by
        have := tvB_tok hv (k := 2 * k + 1) (by omega)
        rw [tokB_odd (by omega)] at this
        simp [inR] at this; omega
      obtain ⟨q, hq, rfl⟩ := left_part hg ha (left_set hg hv k (by omega) p' hp') hx
      exact List.mem_map.2 ⟨q, hq, rfl⟩
    rw [List.length_map, pd_length] at h1
    have := acts_le t
    omega
theorem bnd_40 {t : Kt} (hw : t.words.length ≤ 40) : t.bnd ≤ 1640 := by
  have h1 := bnd_le t
  have h2 : t.words.length * (t.words.length + 1) ≤ 40 * 41 := Nat.mul_le_mul hw (by omega)
  omega
theorem left_bnd {t : Kt} (hw : t.words.length ≤ 40) {q : Kt} (h : q = t ∨ q ∈ t.pd) : q.bnd ≤ 1640 ∧ q.words.length ≤ 1640 := by
  have := bnd_40 hw
  rcases h with rfl | h
  · omega
  · have := pd_bnd t q h; omega
theorem flat_take {S : List (List Int)} {f : List Int → List (List Int)} {k : Nat} (h : k < S.length) : (S.take (k + 1)).flatMap f = (S.take k).flatMap f ++ f (rowI S k) := by
  rw [List.take_add_one, List.getElem?_eq_getElem h, List.flatMap_append, rowI_getElem _ _ h]; simp
theorem flat_len {S : List (List Int)} {f : List Int → List (List Int)} {m : Nat} (h : ∀ p, p ∈ S → (f p).length ≤ m) : ∀ k, ((S.take k).flatMap f).length ≤ k * m
  | 0 => by simp
  | k + 1 => by
    have ih := flat_len h k
    rw [Nat.succ_mul]
    by_cases hk : k < S.length
    · rw [flat_take hk, List.length_append]
      have := h (rowI S k) (by rw [rowI_getElem _ _ hk]; exact List.getElem_mem hk)
      omega
    · rw [List.take_of_length_le (by omega)] at ih ⊢
      omega
end Go.Kt
namespace Go.Kt
set_option linter.unusedVariables false

/-- Those that are new, behind a list. -/
def addL (out : List (List Int)) : List (List Int) → List (List Int)
  | [] => out
  | p :: ps => addL (if p ∈ out then out else out ++ [p]) ps
theorem addL_snoc : ∀ (ps : List (List Int)) (out : List (List Int)) (p : List Int), addL out (ps ++ [p]) = if p ∈ addL out ps then addL out ps else addL out ps ++ [p]
  | [], out, p => rfl
  | q :: ps, out, p => addL_snoc ps _ p
theorem addL_take {out ps : List (List Int)} {k : Nat} (h : k < ps.length) : addL out (ps.take (k + 1)) = if rowI ps k ∈ addL out (ps.take k) then addL out (ps.take k) else addL out (ps.take k) ++ [rowI ps k] := by
  rw [List.take_add_one, List.getElem?_eq_getElem h, ← rowI_getElem _ _ h]
  exact addL_snoc _ _ _
theorem addL_pre : ∀ (ps out : List (List Int)), ∃ r, addL out ps = out ++ r
  | [], out => ⟨[], by simp [addL]⟩
  | p :: ps, out => by
    obtain ⟨r, hr⟩ := addL_pre ps (if p ∈ out then out else out ++ [p])
    unfold addL
    rw [hr]
    split
    · exact ⟨r, rfl⟩
    · exact ⟨[p] ++ r, by simp⟩
theorem mem_addL (x : List Int) : ∀ (ps out : List (List Int)), x ∈ addL out ps ↔ x ∈ out ∨ x ∈ ps
  | [], out => by simp [addL]
  | p :: ps, out => by
    unfold addL
    rw [mem_addL x ps]
    split
    · rename_i h
      simp only [List.mem_cons]
      constructor
      · rintro (h1 | h1)
        · exact .inl h1
        · exact .inr (.inr h1)
      · rintro (h1 | rfl | h1)
        · exact .inl h1
        · exact .inl h
        · exact .inr h1
    · simp only [List.mem_append, List.mem_cons, List.not_mem_nil, or_false, or_assoc]
theorem nodup_addL : ∀ (ps out : List (List Int)), out.Nodup → (addL out ps).Nodup
  | [], out, h => h
  | p :: ps, out, h => by
    unfold addL
    refine nodup_addL ps _ ?_
    split
    · exact h
    · rename_i hp
      rw [List.nodup_append]
      exact ⟨h, by simp, fun a ha b hb => by simp at hb; subst hb; rintro rfl; exact hp ha⟩
/-- What is left behind move m of twelve. -/
def movL (x : List Int) (m : Nat) : List (List Int) := partsL (m / 3) (16 + ((m % 3 : Nat) : Int)) (treeW x)
def addM (out : List (List Int)) (x : List Int) : Nat → List (List Int)
  | 0 => out
  | m + 1 => addL (addM out x m) (movL x m)
theorem addM_pre (out : List (List Int)) (x : List Int) : ∀ m, ∃ r, addM out x m = out ++ r
  | 0 => ⟨[], by simp [addM]⟩
  | m + 1 => by
    obtain ⟨r, hr⟩ := addM_pre out x m
    obtain ⟨s, hs⟩ := addL_pre (movL x m) (addM out x m)
    exact ⟨r ++ s, by unfold addM; rw [hs, hr, List.append_assoc]⟩
theorem mem_addM (out : List (List Int)) (x y : List Int) : ∀ m, y ∈ addM out x m ↔ y ∈ out ∨ ∃ j, j < m ∧ y ∈ movL x j
  | 0 => by simp [addM]
  | m + 1 => by
    unfold addM
    rw [mem_addL, mem_addM out x y m]
    constructor
    · rintro ((h | ⟨j, h1, h2⟩) | h)
      · exact .inl h
      · exact .inr ⟨j, by omega, h2⟩
      · exact .inr ⟨m, by omega, h⟩
    · rintro (h | ⟨j, h1, h2⟩)
      · exact .inl (.inl h)
      · by_cases e : j = m
        · subst e; exact .inr h2
        · exact .inl (.inr ⟨j, by omega, h2⟩)
theorem nodup_addM (out : List (List Int)) (x : List Int) (h : out.Nodup) : ∀ m, (addM out x m).Nodup
  | 0 => h
  | m + 1 => nodup_addL _ _ (nodup_addM out x h m)
/-- Behind k rounds. -/
def clL (e : List Int) : Nat → List (List Int)
  | 0 => [e]
  | k + 1 => if k < (clL e k).length then addM (clL e k) (rowI (clL e k) k) 12 else clL e k
theorem clL_succ (e : List Int) (k : Nat) : clL e (k + 1) = if k < (clL e k).length then addM (clL e k) (rowI (clL e k) k) 12 else clL e k := rfl
theorem clL_pre (e : List Int) (k : Nat) : ∃ r, clL e (k + 1) = clL e k ++ r := by
  rw [clL_succ]
  split
  · exact addM_pre _ _ _
  · exact ⟨[], by simp⟩
theorem clL_le (e : List Int) (k : Nat) : (clL e k).length ≤ (clL e (k + 1)).length := by
  obtain ⟨r, hr⟩ := clL_pre e k
  rw [hr, List.length_append]; omega
theorem clL_pos (e : List Int) : ∀ k, 1 ≤ (clL e k).length
  | 0 => Nat.le_refl _
  | k + 1 => Nat.le_trans (clL_pos e k) (clL_le e k)
theorem clL_row (e : List Int) (k i : Nat) (h : i < (clL e k).length) : rowI (clL e (k + 1)) i = rowI (clL e k) i := by
  obtain ⟨r, hr⟩ := clL_pre e k
  rw [hr, rowI_getElem _ _ (by rw [List.length_append]; omega), rowI_getElem _ _ h, List.getElem_append_left h]
theorem nodup_clL (e : List Int) : ∀ k, (clL e k).Nodup
  | 0 => by simp [clL]
  | k + 1 => by
    unfold clL
    split
    · exact nodup_addM _ _ (nodup_clL e k) _
    · exact nodup_clL e k
theorem clL_stop {e : List Int} {k : Nat} (h : (clL e k).length ≤ k) : ∀ d, clL e (k + d) = clL e k
  | 0 => rfl
  | d + 1 => by
    have ih := clL_stop h d
    show clL e (k + d + 1) = _
    have : clL e (k + d + 1) = if k + d < (clL e (k + d)).length then addM (clL e (k + d)) (rowI (clL e (k + d)) (k + d)) 12 else clL e (k + d) := rfl
    rw [this, ih, if_neg (by omega)]
theorem movL_left {t : Kt} (hg : t.Good) {x y : List Int} {m : Nat} (hx : Left t x) (hy : y ∈ movL x m) : ∃ q, q ∈ t.pd ∧ q.words = y := left_part hg (by omega) hx hy
theorem clL_left {t : Kt} (hg : t.Good) : ∀ k x, x ∈ clL t.words k → Left t x
  | 0, x, hx => by simp [clL] at hx; subst hx; exact ⟨t, hg, rfl, .inl rfl⟩
  | k + 1, x, hx => by
    unfold clL at hx
    split at hx
    · rename_i hk
      rcases (mem_addM _ _ _ _).1 hx with hx | ⟨j, _, hx⟩
      · exact clL_left hg k x hx
      · obtain ⟨q, hq, rfl⟩ := movL_left hg (clL_left hg k _ (by rw [rowI_getElem _ _ hk]; exact List.getElem_mem hk)) hx
        exact ⟨q, pd_good t hg q hq, rfl, .inr hq⟩
    · exact clL_left hg k x hx
theorem length_ordL_nodup : ∀ {L : List (List Int)}, L.Nodup → (ordL L).length = L.length
  | [], _ => rfl
  | x :: L, h => by
    have h' := List.nodup_cons.1 h
    have ih := length_ordL_nodup h'.2
    have key : ∀ M : List (List Int), x ∉ M → (insL x M).length = M.length + 1 := by
      intro M
      induction M with
      | nil => intro _; rfl
      | cons y M ihM =>
        intro hM
        unfold insL
        split
        · rw [List.length_cons, ihM (fun h => hM (List.mem_cons_of_mem _ h)), List.length_cons]
        · split
          · rename_i he; exact absurd (by rw [he]; simp) hM
          · rfl
    show (insL x (ordL L)).length = _
    rw [key _ (fun hx => h'.1 ((mem_ordL x L).1 hx)), ih]; rfl
theorem nodup_len {A L : List (List Int)} (hA : A.Nodup) (h : ∀ x, x ∈ A → x ∈ L) : A.length ≤ L.length := by
  rw [← length_ordL_nodup hA]
  exact len_sub (asc_ordL A) fun x hx => h x ((mem_ordL x A).1 hx)
theorem clL_len {t : Kt} (hg : t.Good) (hw : t.words.length ≤ 40) (k : Nat) : (clL t.words k).length ≤ 41 := by
  have h1 := nodup_len (L := (t :: t.pd).map Kt.words) (nodup_clL t.words k) fun x hx => by
    obtain ⟨q, hq, rfl, h⟩ := clL_left hg k x hx
    rcases h with rfl | h
    · exact List.mem_map.2 ⟨_, by simp, rfl⟩
    · exact List.mem_map.2 ⟨q, by simp [h], rfl⟩
  have h2 := pd_length t
  have h3 := acts_le t
  simp only [List.length_map, List.length_cons] at h1
  omega
def allL (e : List Int) : List (List Int) := clL e 41
theorem allL_of {e : List Int} {k : Nat} (hk : k ≤ 41) (h : (clL e k).length ≤ k) : allL e = clL e k := by
  have := clL_stop h (41 - k)
  rw [show k + (41 - k) = 41 by omega] at this
  exact this
theorem clL_closed (e : List Int) : ∀ k i, i < k → i < (clL e k).length → ∀ m, m < 12 → ∀ y, y ∈ movL (rowI (clL e k) i) m → y ∈ clL e k
  | 0, i, h, _, _, _, _, _ => by omega
  | k + 1, i, h, hi, m, hm, y, hy => by
    by_cases hik : i < (clL e k).length
    · rw [clL_row e k i hik] at hy
      by_cases e1 : i = k
      · subst e1
        have : clL e (i + 1) = addM (clL e i) (rowI (clL e i) i) 12 := by
          show (if i < (clL e i).length then _ else _) = _
          rw [if_pos hik]
        rw [this, mem_addM]
        exact .inr ⟨m, hm, hy⟩
      · have := clL_closed e k i (by omega) hik m hm y hy
        obtain ⟨r, hr⟩ := clL_pre e k
        rw [hr]; exact List.mem_append.2 (.inl this)
    · have : clL e (k + 1) = clL e k ∨ k < (clL e k).length := by
        by_cases hk : k < (clL e k).length
        · exact .inr hk
        · refine .inl ?_
          show (if k < (clL e k).length then _ else _) = _
          rw [if_neg hk]
      rcases this with h1 | h1
      · rw [h1] at hi; omega
      · omega
theorem allL_closed {t : Kt} (hg : t.Good) (hw : t.words.length ≤ 40) {x : List Int} (hx : x ∈ allL t.words) {m : Nat} (hm : m < 12) {y : List Int} (hy : y ∈ movL x m) : y ∈ allL t.words := by
  obtain ⟨i, hi, he⟩ := List.mem_iff_getElem.1 hx
  have hl := clL_len hg hw 41
  refine clL_closed t.words 41 i (by unfold allL at hi; omega) hi m hm y ?_
  have : rowI (clL t.words 41) i = x := (rowI_getElem _ _ hi).trans he
  rw [this]; exact hy
theorem allL_head (e : List Int) : ∀ k, rowI (clL e k) 0 = e
  | 0 => rfl
  | k + 1 => by rw [clL_row e k 0 (clL_pos e k)]; exact allL_head e k
theorem allL_left {t : Kt} (hg : t.Good) {x : List Int} (hx : x ∈ allL t.words) : Left t x := clL_left hg 41 x hx
theorem nodup_allL (e : List Int) : (allL e).Nodup := nodup_clL e 41
end Go.Kt
namespace Go.Kt
set_option linter.unusedVariables false

/-- The set of those below n that meet p. -/
def sumN (p : Nat → Bool) : Nat → Nat
  | 0 => 0
  | k + 1 => sumN p k + if p k then pow2 k else 0
theorem sumN_succ (p : Nat → Bool) (k : Nat) : sumN p (k + 1) = sumN p k + if p k then pow2 k else 0 := rfl
theorem sumN_lt (p : Nat → Bool) : ∀ k, sumN p k < 2 ^ k
  | 0 => by simp [sumN]
  | k + 1 => by
    have := sumN_lt p k
    rw [sumN_succ, Nat.pow_succ]
    unfold pow2
    split <;> omega
theorem sumN_or (p : Nat → Bool) (k : Nat) (h : p k = true) : orN (sumN p k) (pow2 k) = sumN p (k + 1) := by
  have := Nat.two_pow_add_eq_or_of_lt (sumN_lt p k) 1
  rw [Nat.mul_one] at this
  rw [sumN_succ, if_pos h, orN, pow2, Nat.or_comm, ← this, Nat.add_comm]
theorem testBit_sumN (p : Nat → Bool) (s : Nat) : ∀ k, (sumN p k).testBit s = true ↔ s < k ∧ p s = true
  | 0 => by simp [sumN]
  | k + 1 => by
    cases hb : p k
    · rw [sumN_succ, hb]
      simp only [Bool.false_eq_true, if_false, Nat.add_zero]
      rw [testBit_sumN p s k]
      constructor
      · rintro ⟨h1, h2⟩; exact ⟨by omega, h2⟩
      · rintro ⟨h1, h2⟩
        by_cases hsj : s = k
        · subst hsj; rw [hb] at h2; cases h2
        · exact ⟨by omega, h2⟩
    · rw [← sumN_or p k hb, testBit_orN, Bool.or_eq_true, testBit_sumN p s k, testBit_pow2, decide_eq_true_eq]
      constructor
      · rintro (⟨h1, h2⟩ | rfl)
        · exact ⟨by omega, h2⟩
        · exact ⟨by omega, hb⟩
      · rintro ⟨h1, h2⟩
        by_cases hsk : s = k
        · exact .inr hsk.symm
        · exact .inl ⟨by omega, h2⟩
theorem bits_eq {a b : Nat} (h : ∀ i, a.testBit i = true ↔ b.testBit i = true) : a = b := Sub.antisymm (fun i hi => (h i).1 hi) (fun i hi => (h i).2 hi)
/-- The set of the places of a list that are in another one. -/
def idxN (L left : List (List Int)) (n : Nat) : Nat := sumN (fun j => decide (rowI L j ∈ left)) n
theorem testBit_idxN (L left : List (List Int)) (n j : Nat) : (idxN L left n).testBit j = true ↔ j < n ∧ rowI L j ∈ left := by
  unfold idxN; rw [testBit_sumN, decide_eq_true_eq]
theorem idxN_lt (L left : List (List Int)) (n : Nat) : idxN L left n < 2 ^ n := sumN_lt _ n
/-- The sets behind a part. -/
def rowA (L : List (List Int)) (x : List Int) (k : Nat) : List Int := (List.range k).map fun m => ((idxN L (movL x m) L.length : Nat) : Int)
theorem rowA_length (L : List (List Int)) (x : List Int) (k : Nat) : (rowA L x k).length = k := by simp [rowA]
theorem rowA_get (L : List (List Int)) (x : List Int) (k m : Nat) (h : m < k) : nth (rowA L x k) m = ((idxN L (movL x m) L.length : Nat) : Int) := by
  rw [nth_getElem _ _ (by rw [rowA_length]; exact h)]; simp [rowA]
theorem rowA_succ (L : List (List Int)) (x : List Int) (k : Nat) : rowA L x (k + 1) = rowA L x k ++ [((idxN L (movL x k) L.length : Nat) : Int)] := by simp [rowA, List.range_succ]
def autE (L : List (List Int)) (k : Nat) : List Int := (L.take k).map fun x => (((treeW x).ends : Nat) : Int)
def autN (L : List (List Int)) (k : Nat) : List (List Int) := (L.take k).map fun x => rowA L x 12
theorem autE_succ {L : List (List Int)} {k : Nat} (h : k < L.length) : autE L (k + 1) = autE L k ++ [(((treeW (rowI L k)).ends : Nat) : Int)] := by
  unfold autE; rw [List.take_add_one, List.getElem?_eq_getElem h, List.map_append, rowI_getElem _ _ h]; rfl
theorem autN_succ {L : List (List Int)} {k : Nat} (h : k < L.length) : autN L (k + 1) = autN L k ++ [rowA L (rowI L k) 12] := by
  unfold autN; rw [List.take_add_one, List.getElem?_eq_getElem h, List.map_append, rowI_getElem _ _ h]; rfl
theorem autE_len (L : List (List Int)) (k : Nat) : (autE L k).length = min k L.length := by simp [autE]
theorem autN_len (L : List (List Int)) (k : Nat) : (autN L k).length = min k L.length := by simp [autN]
theorem autE_nth {L : List (List Int)} {k s : Nat} (h : s < k) (hs : s < L.length) : nth (autE L k) s = (((treeW (rowI L s)).ends : Nat) : Int) := by
  rw [nth_getElem _ _ (by rw [autE_len]; omega), rowI_getElem _ _ hs]; simp [autE]
theorem autE_get {L : List (List Int)} {k s : Nat} (h : s < k) (hs : s < L.length) : natAt (autE L k) s = (treeW (rowI L s)).ends := natAt_cast (autE_nth h hs)
theorem autN_get {L : List (List Int)} {k s : Nat} (h : s < k) (hs : s < L.length) : rowI (autN L k) s = rowA L (rowI L s) 12 := by
  rw [rowI_getElem _ _ (by rw [autN_len]; omega), rowI_getElem _ _ hs]; simp [autN]
/-- An expression has an automaton. -/
def auB (e : List Int) : Bool := kvB e && decide ((allL e).length ≤ 10)
def auE (e : List Int) : List Int := if auB e then autE (allL e) (allL e).length else []
def auN (e : List Int) : List (List Int) := if auB e then autN (allL e) (allL e).length else []
/-- A valid automaton. -/
structure Auto (E : List Int) (N : List (List Int)) : Prop where
  len : N.length = E.length
  ten : E.length ≤ 10
  ends : ∀ s, s < E.length → 0 ≤ nth E s ∧ nth E s < 16
  row : ∀ s, s < E.length → (rowI N s).length = 12
  next : ∀ s, s < E.length → ∀ m, m < 12 → 0 ≤ nth (rowI N s) m ∧ nth (rowI N s) m < 2 ^ E.length
theorem auto_of (e : List Int) : Auto (auE e) (auN e) := by
  unfold auE auN
  by_cases h : auB e = true
  · rw [if_pos h, if_pos h]
    have h10 : (allL e).length ≤ 10 := by unfold auB at h; simp at h; exact h.2
    have hE : (autE (allL e) (allL e).length).length = (allL e).length := by rw [autE_len]; omega
    refine ⟨by rw [autN_len, autE_len], by omega, fun s hs => ?_, fun s hs => ?_, fun s hs m hm => ?_⟩
    · rw [hE] at hs
      rw [autE_nth hs hs]
      have := (treeW (rowI (allL e) s)).ends_lt
      omega
    · rw [hE] at hs
      rw [autN_get hs hs, rowA_length]
    · rw [hE] at hs ⊢
      rw [autN_get hs hs, rowA_get _ _ _ _ hm]
      have := idxN_lt (allL e) (movL (rowI (allL e) s) m) (allL e).length
      refine ⟨by omega, ?_⟩
      have h2 : ((2 ^ (allL e).length : Nat) : Int) = 2 ^ (allL e).length := by simp
      rw [← h2]; omega
  · rw [if_neg h, if_neg h]
    exact ⟨rfl, by simp, fun s hs => by simp at hs, fun s hs => by simp at hs, fun s hs => by simp at hs⟩
/-- A column of the table. -/
def colA (N : List (List Int)) (m : Nat) : List Int := N.map fun r => nth r m
theorem colA_length (N : List (List Int)) (m : Nat) : (colA N m).length = N.length := by simp [colA]
theorem colA_get {N : List (List Int)} {m s : Nat} (h : s < N.length) : nth (colA N m) s = nth (rowI N s) m := by
  rw [nth_getElem _ _ (by rw [colA_length]; exact h), rowI_getElem _ _ h]; simp [colA]
theorem colA_nat {N : List (List Int)} {m s : Nat} (h : s < N.length) : natAt (colA N m) s = natAt (rowI N s) m := by unfold natAt; rw [colA_get h]
/-- The states behind a set. -/
def stp (N : List (List Int)) (S m : Nat) : Nat := img (colA N m) S
theorem Auto.nat {E : List Int} {N : List (List Int)} (h : Auto E N) {s m : Nat} (hs : s < E.length) (hm : m < 12) : natAt (rowI N s) m < 2 ^ E.length := by
  have := (h.next s hs m hm)
  unfold natAt
  have h2 : ((2 ^ E.length : Nat) : Int) = 2 ^ E.length := by simp
  rw [← h2] at this; omega
theorem stp_lt {E : List Int} {N : List (List Int)} (h : Auto E N) (S : Nat) {m : Nat} (hm : m < 12) : stp N S m < 2 ^ E.length := by
  refine img_lt (fun i hi => ?_) S
  rw [colA_length] at hi
  rw [colA_nat hi]
  exact h.nat (by rw [← h.len]; exact hi) hm
theorem two_10 {E : List Int} {N : List (List Int)} (h : Auto E N) : 2 ^ E.length ≤ 1024 := by
  have : 2 ^ E.length ≤ 2 ^ 10 := Nat.pow_le_pow_right (by decide) h.ten
  omega
theorem ends_of_lt {E : List Int} {N : List (List Int)} (h : Auto E N) (S : Nat) : img E S < 16 := by
  have : img E S < 2 ^ 4 := img_lt (m := 4) (fun i hi => by have := h.ends i hi; unfold natAt; omega) S
  omega
theorem testBit_stp {E : List Int} {N : List (List Int)} (h : Auto E N) (S m j : Nat) : (stp N S m).testBit j = true ↔ ∃ s, s < E.length ∧ S.testBit s = true ∧ (natAt (rowI N s) m).testBit j = true := by
  unfold stp
  rw [testBit_img, colA_length, h.len]
  constructor
  · rintro ⟨s, h1, h2, h3⟩
    exact ⟨s, h1, h2, by rw [colA_nat (by rw [h.len]; exact h1)] at h3; exact h3⟩
  · rintro ⟨s, h1, h2, h3⟩
    exact ⟨s, h1, h2, by rw [colA_nat (by rw [h.len]; exact h1)]; exact h3⟩
theorem auB_kv {e : List Int} (h : auB e = true) : kvB e = true ∧ (allL e).length ≤ 10 := by unfold auB at h; simpa using h
theorem auE_len {e : List Int} (h : auB e = true) : (auE e).length = (allL e).length := by unfold auE; rw [if_pos h, autE_len]; omega
theorem auE_off {e : List Int} (h : auB e = false) : auE e = [] := by unfold auE; rw [h]; rfl
theorem auE_pos {e : List Int} (h : auB e = true) : 1 ≤ (auE e).length := by rw [auE_len h]; exact clL_pos e 41
theorem auE_iff (e : List Int) : auB e = true ↔ 0 < (auE e).length := by
  cases h : auB e
  · rw [auE_off h]; simp
  · have := auE_pos h
    exact ⟨fun _ => by omega, fun _ => rfl⟩
theorem auE_nat {e : List Int} (h : auB e = true) {s : Nat} (hs : s < (allL e).length) : natAt (auE e) s = (treeW (rowI (allL e) s)).ends := by
  unfold auE; rw [if_pos h]; exact autE_get hs hs
theorem auN_bit {e : List Int} (h : auB e = true) {s m j : Nat} (hs : s < (allL e).length) (hm : m < 12) : (natAt (rowI (auN e) s) m).testBit j = true ↔ j < (allL e).length ∧ rowI (allL e) j ∈ movL (rowI (allL e) s) m := by
  unfold auN
  rw [if_pos h, autN_get hs hs, natAt_cast (rowA_get _ _ _ _ hm), testBit_idxN]
/-- What a set of states stands for. -/
def InS (e : List Int) (S : Nat) (x : List Int) : Prop := ∃ s, s < (allL e).length ∧ S.testBit s = true ∧ rowI (allL e) s = x
theorem inS_one (e x : List Int) : InS e 1 x ↔ x = e := by
  have h0 : rowI (allL e) 0 = e := allL_head e 41
  constructor
  · rintro ⟨s, h1, h2, h3⟩
    have h2' : (pow2 0).testBit s = true := h2
    rw [testBit_pow2, decide_eq_true_eq] at h2'
    subst h2'
    rw [← h3, h0]
  · rintro rfl
    exact ⟨0, clL_pos x 41, by decide, h0⟩
theorem inS_stp {t : Kt} (hg : t.Good) (h : auB t.words = true) {S m : Nat} (hm : m < 12) (y : List Int) : InS t.words (stp (auN t.words) S m) y ↔ ∃ x, InS t.words S x ∧ y ∈ movL x m := by
  have hw := (kvB_len (auB_kv h).1).2
  constructor
  · rintro ⟨j, h1, h2, rfl⟩
    obtain ⟨s, k1, k2, k3⟩ := (testBit_stp (auto_of _) S m j).1 h2
    rw [auE_len h] at k1
    exact ⟨_, ⟨s, k1, k2, rfl⟩, ((auN_bit h k1 hm).1 k3).2⟩
  · rintro ⟨x, ⟨s, k1, k2, rfl⟩, hy⟩
    have hc := allL_closed hg hw (by rw [rowI_getElem _ _ k1]; exact List.getElem_mem k1) hm hy
    obtain ⟨j, hj, he⟩ := List.mem_iff_getElem.1 hc
    have he' : rowI (allL t.words) j = y := by rw [rowI_getElem _ _ hj]; exact he
    exact ⟨j, hj, (testBit_stp (auto_of _) S m j).2 ⟨s, by rw [auE_len h]; exact k1, k2, (auN_bit h k1 hm).2 ⟨hj, by rw [he']; exact hy⟩⟩, he'⟩
theorem inS_ends {e : List Int} (h : auB e = true) (S a : Nat) : (img (auE e) S).testBit a = true ↔ ∃ x, InS e S x ∧ (treeW x).ends.testBit a = true := by
  rw [testBit_img, auE_len h]
  constructor
  · rintro ⟨s, h1, h2, h3⟩
    rw [auE_nat h h1] at h3
    exact ⟨_, ⟨s, h1, h2, rfl⟩, h3⟩
  · rintro ⟨x, ⟨s, h1, h2, rfl⟩, h3⟩
    exact ⟨s, h1, h2, by rw [auE_nat h h1]; exact h3⟩
/-- A trace runs through an automaton. -/
def moveN (tr : List Int) (k : Nat) : Nat := 3 * (nth tr (2 * k)).toNat + (nth tr (2 * k + 1)).toNat - 16
def runA (N : List (List Int)) (tr : List Int) : Nat → Nat
  | 0 => 1
  | k + 1 => stp N (runA N tr k) (moveN tr k)
theorem trace_move {tr : List Int} (hv : tvB tr = true) {k : Nat} (hk : 2 * k + 1 < tr.length) : (moveN tr k) < 12 ∧ (moveN tr k) / 3 = (nth tr (2 * k)).toNat ∧ 16 + (((moveN tr k) % 3 : Nat) : Int) = nth tr (2 * k + 1) := by
  have h1 := tvB_tok hv (show 2 * k < tr.length by omega)
  have h2 := tvB_tok hv hk
  rw [tokB_even (by omega)] at h1
  rw [tokB_odd (by omega)] at h2
  simp [inR] at h1 h2
  unfold moveN
  refine ⟨by omega, by omega, by omega⟩
theorem setL_runA {t : Kt} (hg : t.Good) (h : auB t.words = true) {tr : List Int} (hv : tvB tr = true) : ∀ k, 2 * k + 1 ≤ tr.length → ∀ x, x ∈ setL t.words tr k ↔ InS t.words (runA (auN t.words) tr k) x
  | 0, _, x => by
    show x ∈ [t.words] ↔ _
    rw [List.mem_singleton]; exact (inS_one _ _).symm
  | k + 1, hk, x => by
    obtain ⟨m1, m2, m3⟩ := trace_move hv (show 2 * k + 1 < tr.length by omega)
    show x ∈ ordL _ ↔ InS _ (stp _ _ _) x
    rw [mem_ordL, List.mem_flatMap, inS_stp hg h m1]
    constructor
    · rintro ⟨p, hp, hx⟩
      exact ⟨p, (setL_runA hg h hv k (by omega) p).1 hp, by unfold movL; rw [m2, m3]; exact hx⟩
    · rintro ⟨p, hp, hx⟩
      exact ⟨p, (setL_runA hg h hv k (by omega) p).2 hp, by unfold movL at hx; rw [m2, m3] at hx; exact hx⟩
theorem tbB_runA {t : Kt} (hg : t.Good) (h : auB t.words = true) {tr : List Int} (hv : tvB tr = true) : tbB t.words tr = (img (auE t.words) (runA (auN t.words) tr (tr.length / 2))).testBit (nth tr (tr.length - 1)).toNat := by
  have hl := tvB_len hv
  rw [Bool.eq_iff_iff, inS_ends h]
  unfold tbB
  rw [(auB_kv h).1, hv, Bool.true_and, Bool.true_and, List.any_eq_true]
  constructor
  · rintro ⟨x, hx, he⟩
    exact ⟨x, (setL_runA hg h hv _ (by omega) x).1 hx, he⟩
  · rintro ⟨x, hx, he⟩
    exact ⟨x, (setL_runA hg h hv _ (by omega) x).2 hx, he⟩
section
variable {p q : Int} {st : Nat} {ll : List (List Int)}
def RunS (p q : Int) (ll : List (List Int)) (e : List Int) (n S i u : Nat) : Prop := ∃ x, InS e S x ∧ Run p q ll n (treeW x) i u
theorem runS_zero {e : List Int} (h : auB e = true) (S i u : Nat) : RunS p q ll e 0 S i u ↔ i = u ∧ (img (auE e) S).testBit (atomI p q i) = true := by
  rw [inS_ends h]
  constructor
  · rintro ⟨x, hx, rfl, he⟩; exact ⟨rfl, x, hx, he⟩
  · rintro ⟨rfl, x, hx, he⟩; exact ⟨x, hx, rfl, he⟩
theorem inS_left {t : Kt} (hg : t.Good) {S : Nat} {x : List Int} (hx : InS t.words S x) : Left t x := by
  obtain ⟨s, h1, -, rfl⟩ := hx
  exact allL_left hg (by rw [rowI_getElem _ _ h1]; exact List.getElem_mem h1)
theorem runS_succ {t : Kt} (hg : t.Good) (h : auB t.words = true) (n S i u : Nat) : RunS p q ll t.words (n + 1) S i u ↔ ∃ (k j : Nat), k < 3 ∧ By (rowI ll k) i j ∧ RunS p q ll t.words n (stp (auN t.words) S (3 * atomI p q i + k)) j u := by
  have ha := atomI_le p q i
  constructor
  · rintro ⟨x, hx, k, j, r, hk, hr, hb, h2⟩
    refine ⟨k, j, hk, hb, r.words, (inS_stp hg h (by omega) _).2 ⟨x, hx, ?_⟩, ?_⟩
    · unfold movL
      rw [show (3 * atomI p q i + k) / 3 = atomI p q i by omega, show (3 * atomI p q i + k) % 3 = k by omega]
      exact mem_partsL.2 ⟨r, hr, rfl⟩
    · obtain ⟨qx, hq, rfl, -⟩ := inS_left hg hx
      rw [treeW_words hq] at hr
      rw [treeW_words (pd_good qx hq r (part_pd _ _ (by omega) qx r hr))]; exact h2
  · rintro ⟨k, j, hk, hb, y, hy, h2⟩
    obtain ⟨x, hx, hm⟩ := (inS_stp hg h (by omega) _).1 hy
    unfold movL at hm
    rw [show (3 * atomI p q i + k) / 3 = atomI p q i by omega, show (3 * atomI p q i + k) % 3 = k by omega] at hm
    obtain ⟨r, hr, rfl⟩ := mem_partsL.1 hm
    refine ⟨x, hx, k, j, r, hk, hr, hb, ?_⟩
    obtain ⟨qx, hq, rfl, -⟩ := inS_left hg hx
    rw [treeW_words hq] at hr
    rw [treeW_words (pd_good qx hq r (part_pd _ _ (by omega) qx r hr))] at h2; exact h2
theorem runS_one {t : Kt} (hg : t.Good) (n i u : Nat) : RunS p q ll t.words n 1 i u ↔ Run p q ll n t i u := by
  constructor
  · rintro ⟨x, hx, h⟩
    rw [(inS_one _ _).1 hx, treeW_words hg] at h; exact h
  · intro h
    exact ⟨t.words, (inS_one _ _).2 rfl, by rw [treeW_words hg]; exact h⟩
end
end Go.Kt
namespace Go.Kt
set_option linter.unusedVariables false

/-- The pair behind a pair. -/
def nxP (N M : List (List Int)) (p : Nat × Nat) (m : Nat) : Nat × Nat := (stp N p.1 m, stp M p.2 m)
def addP (N M : List (List Int)) (out : List (Nat × Nat)) (p : Nat × Nat) : Nat → List (Nat × Nat)
  | 0 => out
  | m + 1 => if nxP N M p m ∈ addP N M out p m then addP N M out p m else addP N M out p m ++ [nxP N M p m]
def atP (L : List (Nat × Nat)) (k : Nat) : Nat × Nat := L.getD k (0, 0)
theorem atP_getElem (L : List (Nat × Nat)) (k : Nat) (h : k < L.length) : atP L k = L[k] := by
  unfold atP; rw [List.getD_eq_getElem?_getD, List.getElem?_eq_getElem h]; rfl
theorem atP_mem {L : List (Nat × Nat)} {k : Nat} (h : k < L.length) : atP L k ∈ L := by rw [atP_getElem _ _ h]; exact List.getElem_mem h
/-- Behind k rounds. -/
def clP (N M : List (List Int)) : Nat → List (Nat × Nat)
  | 0 => [(1, 1)]
  | k + 1 => if k < (clP N M k).length then addP N M (clP N M k) (atP (clP N M k) k) 12 else clP N M k
theorem addP_pre (N M : List (List Int)) (out : List (Nat × Nat)) (p : Nat × Nat) : ∀ m, ∃ r, addP N M out p m = out ++ r
  | 0 => ⟨[], by simp [addP]⟩
  | m + 1 => by
    obtain ⟨r, hr⟩ := addP_pre N M out p m
    unfold addP
    split
    · exact ⟨r, hr⟩
    · exact ⟨r ++ [nxP N M p m], by rw [hr, List.append_assoc]⟩
theorem addP_len (N M : List (List Int)) (out : List (Nat × Nat)) (p : Nat × Nat) : ∀ m, (addP N M out p m).length ≤ out.length + m
  | 0 => Nat.le_refl _
  | m + 1 => by
    have := addP_len N M out p m
    unfold addP
    split
    · omega
    · rw [List.length_append]; simp; omega
theorem clP_succ (N M : List (List Int)) (k : Nat) : clP N M (k + 1) = if k < (clP N M k).length then addP N M (clP N M k) (atP (clP N M k) k) 12 else clP N M k := rfl
theorem clP_pre (N M : List (List Int)) (k : Nat) : ∃ r, clP N M (k + 1) = clP N M k ++ r := by
  rw [clP_succ]
  split
  · exact addP_pre N M _ _ _
  · exact ⟨[], by simp⟩
theorem clP_mono (N M : List (List Int)) (k : Nat) : ∀ d, (clP N M k).length ≤ (clP N M (k + d)).length
  | 0 => Nat.le_refl _
  | d + 1 => by
    obtain ⟨r, hr⟩ := clP_pre N M (k + d)
    have := clP_mono N M k d
    rw [show k + (d + 1) = k + d + 1 by omega, hr, List.length_append]; omega
theorem clP_stop {N M : List (List Int)} {k : Nat} (h : (clP N M k).length ≤ k) : ∀ d, clP N M (k + d) = clP N M k
  | 0 => rfl
  | d + 1 => by
    have ih := clP_stop h d
    have : clP N M (k + d + 1) = if k + d < (clP N M (k + d)).length then addP N M (clP N M (k + d)) (atP (clP N M (k + d)) (k + d)) 12 else clP N M (k + d) := rfl
    show clP N M (k + d + 1) = _
    rw [this, ih, if_neg (by omega)]
theorem clP_lt {E F : List Int} {N M : List (List Int)} (hN : Auto E N) (hM : Auto F M) (h1 : 1 ≤ E.length) (h2 : 1 ≤ F.length) : ∀ k p, p ∈ clP N M k → p.1 < 2 ^ E.length ∧ p.2 < 2 ^ F.length
  | 0, p, hp => by
    simp [clP] at hp; subst hp
    exact ⟨Nat.one_lt_two_pow (by omega), Nat.one_lt_two_pow (by omega)⟩
  | k + 1, p, hp => by
    unfold clP at hp
    split at hp
    · have key : ∀ m, m ≤ 12 → ∀ q, q ∈ addP N M (clP N M k) (atP (clP N M k) k) m → q.1 < 2 ^ E.length ∧ q.2 < 2 ^ F.length := by
        intro m
        induction m with
        | zero => intro _ q hq; exact clP_lt hN hM h1 h2 k q hq
        | succ m ih =>
          intro hm q hq
          unfold addP at hq
          split at hq
          · exact ih (by omega) q hq
          · rcases List.mem_append.1 hq with hq | hq
            · exact ih (by omega) q hq
            · simp at hq; subst hq
              exact ⟨stp_lt hN _ (by omega), stp_lt hM _ (by omega)⟩
      exact key 12 (Nat.le_refl _) p hp
    · exact clP_lt hN hM h1 h2 k p hp
/-- There are not too many. -/
def prB (N M : List (List Int)) : Bool := decide ((clP N M 101).length ≤ 100)
def prL (N M : List (List Int)) : List (Nat × Nat) := if prB N M then clP N M 101 else []
theorem prL_stop {N M : List (List Int)} {k : Nat} (hk : k ≤ 100) (h : (clP N M k).length = k) : prB N M = true ∧ prL N M = clP N M k := by
  have := clP_stop (N := N) (M := M) (k := k) (by omega) (101 - k)
  rw [show k + (101 - k) = 101 by omega] at this
  have hb : prB N M = true := by unfold prB; rw [this]; simp; omega
  exact ⟨hb, by unfold prL; rw [if_pos hb, this]⟩
theorem prL_many {N M : List (List Int)} {k : Nat} (hk : k ≤ 101) (h : 100 < (clP N M k).length) : prB N M = false ∧ prL N M = [] := by
  have := clP_mono N M k (101 - k)
  rw [show k + (101 - k) = 101 by omega] at this
  have hb : prB N M = false := by unfold prB; simp; omega
  exact ⟨hb, by unfold prL; rw [hb]; rfl⟩
def rowP (p : Nat × Nat) : List Int := [(p.1 : Int), (p.2 : Int)]
theorem rowP_inj {p q : Nat × Nat} (h : rowP p = rowP q) : p = q := by
  unfold rowP at h
  simp at h
  exact Prod.ext (by have := h.1; omega) (by have := h.2; omega)
def prsF (e f : List Int) : List (List Int) := if auB e && auB f then (prL (auN e) (auN f)).map rowP else []
def inS (n : Nat) (x : Int) : Bool := decide (0 ≤ x ∧ x < ((2 ^ n : Nat) : Int))
def rowB (n m : Nat) (r : List Int) : Bool := decide (r.length = 2) && (inS n (nth r 0) && inS m (nth r 1))
def hasP (L : List (List Int)) (p : Nat × Nat) : Bool := decide (rowP p ∈ L)
def movB (N M : List (List Int)) (L : List (List Int)) (p : Nat × Nat) (k : Nat) : Bool := (List.range k).all fun m => hasP L (nxP N M p m)
def endB (E F : List Int) (p : Nat × Nat) : Bool := decide (img E p.1 = img F p.2)
def pairP (r : List Int) : Nat × Nat := (natAt r 0, natAt r 1)
def stepB (E F : List Int) (N M : List (List Int)) (L : List (List Int)) (r : List Int) : Bool := endB E F (pairP r) && movB N M L (pairP r) 12
def okB (e f : List Int) (L : List (List Int)) : Bool :=
  (auB e && auB f) && (decide (L.length ≤ 100) && (L.all (rowB (auE e).length (auE f).length) && (hasP L (1, 1) && L.all (stepB (auE e) (auE f) (auN e) (auN f) L))))
theorem rowB_pair {n m : Nat} {r : List Int} (h : rowB n m r = true) : rowP (pairP r) = r ∧ natAt r 0 < 2 ^ n ∧ natAt r 1 < 2 ^ m := by
  unfold rowB inS at h
  simp only [Bool.and_eq_true, decide_eq_true_eq] at h
  obtain ⟨hl, h0, h1⟩ := h
  match r, hl with
  | [x, y], _ =>
    have e0 : nth [x, y] 0 = x := rfl
    have e1 : nth [x, y] 1 = y := rfl
    rw [e0] at h0
    rw [e1] at h1
    unfold rowP pairP natAt
    rw [e0, e1]
    refine ⟨?_, by omega, by omega⟩
    simp only []
    rw [Int.toNat_of_nonneg h0.1, Int.toNat_of_nonneg h1.1]
theorem pairP_rowP (p : Nat × Nat) : pairP (rowP p) = p := by
  unfold pairP rowP natAt nth
  simp
structure Ok (e f : List Int) (L : List (List Int)) : Prop where
  a : auB e = true
  b : auB f = true
  few : L.length ≤ 100
  row : ∀ r, r ∈ L → rowB (auE e).length (auE f).length r = true
  one : rowP (1, 1) ∈ L
  ends : ∀ r, r ∈ L → img (auE e) (pairP r).1 = img (auE f) (pairP r).2
  next : ∀ r, r ∈ L → ∀ m, m < 12 → rowP (nxP (auN e) (auN f) (pairP r) m) ∈ L
theorem okB_iff (e f : List Int) (L : List (List Int)) : okB e f L = true ↔ Ok e f L := by
  unfold okB stepB movB endB hasP
  simp only [Bool.and_eq_true, decide_eq_true_eq, List.all_eq_true, List.mem_range]
  constructor
  · rintro ⟨⟨h1, h2⟩, h3, h4, h5, h6⟩
    exact ⟨h1, h2, h3, h4, h5, fun r hr => (h6 r hr).1, fun r hr => (h6 r hr).2⟩
  · rintro ⟨h1, h2, h3, h4, h5, h6, h7⟩
    exact ⟨⟨h1, h2⟩, h3, h4, h5, fun r hr => ⟨h6 r hr, h7 r hr⟩⟩
theorem Ok.endsP {e f : List Int} {L : List (List Int)} (h : Ok e f L) {S T : Nat} (hp : rowP (S, T) ∈ L) : img (auE e) S = img (auE f) T := by
  have := h.ends _ hp
  rw [pairP_rowP] at this; exact this
theorem Ok.nextP {e f : List Int} {L : List (List Int)} (h : Ok e f L) {S T : Nat} (hp : rowP (S, T) ∈ L) {m : Nat} (hm : m < 12) : rowP (stp (auN e) S m, stp (auN f) T m) ∈ L := by
  have := h.next _ hp m hm
  rw [pairP_rowP] at this; exact this
/-- The same pairs in another order. -/
theorem Ok.same {e f : List Int} {L L' : List (List Int)} (h : Ok e f L) (hl : L'.length = L.length) (hm : ∀ r, r ∈ L' ↔ r ∈ L) : Ok e f L' :=
  ⟨h.a, h.b, by rw [hl]; exact h.few, fun r hr => h.row r ((hm r).1 hr), (hm _).2 h.one, fun r hr => h.ends r ((hm r).1 hr), fun r hr m hm' => (hm _).2 (h.next r ((hm r).1 hr) m hm')⟩
def turnR (r : List Int) : List Int := [nth r 1, nth r 0]
theorem turnR_rowP (p : Nat × Nat) : turnR (rowP p) = rowP (p.2, p.1) := rfl
/-- Both exchanged. -/
theorem Ok.turn {e f : List Int} {L L' : List (List Int)} (h : Ok e f L) (hl : L'.length = L.length) (hm : ∀ r, r ∈ L' ↔ ∃ r', r' ∈ L ∧ turnR r' = r) : Ok f e L' := by
  have key : ∀ r, r ∈ L' → ∃ p : Nat × Nat, rowP p ∈ L ∧ r = rowP (p.2, p.1) ∧ rowB (auE e).length (auE f).length (rowP p) = true := fun r hr => by
    obtain ⟨r', h1, rfl⟩ := (hm r).1 hr
    have h2 := h.row r' h1
    have h3 := (rowB_pair h2).1
    refine ⟨pairP r', by rw [h3]; exact h1, ?_, by rw [h3]; exact h2⟩
    rw [← turnR_rowP, h3]
  refine ⟨h.b, h.a, by rw [hl]; exact h.few, fun r hr => ?_, (hm _).2 ⟨_, h.one, rfl⟩, fun r hr => ?_, fun r hr m hm' => ?_⟩
  · obtain ⟨p, h1, rfl, h2⟩ := key r hr
    unfold rowB at h2 ⊢
    simp only [Bool.and_eq_true] at h2 ⊢
    exact ⟨h2.1, h2.2.2, h2.2.1⟩
  · obtain ⟨p, h1, rfl, h2⟩ := key r hr
    rw [pairP_rowP]
    exact (h.endsP h1).symm
  · obtain ⟨p, h1, rfl, h2⟩ := key r hr
    rw [pairP_rowP]
    exact (hm _).2 ⟨_, h.nextP h1 hm', rfl⟩
/-- The same traces. -/
theorem Ok.runs {e f : List Int} {L : List (List Int)} (h : Ok e f L) {tr : List Int} (hv : tvB tr = true) : ∀ k, 2 * k + 1 ≤ tr.length → rowP (runA (auN e) tr k, runA (auN f) tr k) ∈ L
  | 0, _ => h.one
  | k + 1, hk => h.nextP (h.runs hv k (by omega)) (trace_move hv (by omega)).1
theorem Ok.traces {s t : Kt} (hs : s.Good) (ht : t.Good) {L : List (List Int)} (h : Ok s.words t.words L) {tr : List Int} (hv : tvB tr = true) : tbB s.words tr = tbB t.words tr := by
  have hl := tvB_len hv
  rw [tbB_runA hs h.a hv, tbB_runA ht h.b hv, h.endsP (h.runs hv (tr.length / 2) (by omega))]
theorem Ok.tb {e f : List Int} {L : List (List Int)} (h : Ok e f L) (tr : List Int) : tbB e tr = tbB f tr := by
  obtain ⟨s, hs, rfl⟩ := kvB_tree (auB_kv h.a).1
  obtain ⟨t, ht, rfl⟩ := kvB_tree (auB_kv h.b).1
  cases hv : tvB tr
  · unfold tbB; rw [hv]; simp
  · exact h.traces hs ht hv
/-- The same rows. -/
theorem Ok.ways {s t : Kt} (hs : s.Good) (ht : t.Good) {L : List (List Int)} (h : Ok s.words t.words L) {p q : Int} {ll : List (List Int)} : ∀ n S T i u, rowP (S, T) ∈ L → (RunS p q ll s.words n S i u ↔ RunS p q ll t.words n T i u)
  | 0, S, T, i, u, hp => by rw [runS_zero h.a, runS_zero h.b, h.endsP hp]
  | n + 1, S, T, i, u, hp => by
    rw [runS_succ hs h.a, runS_succ ht h.b]
    have ha := atomI_le p q i
    constructor
    · rintro ⟨k, j, hk, hb, h2⟩
      exact ⟨k, j, hk, hb, (h.ways hs ht n _ _ j u (h.nextP hp (by omega))).1 h2⟩
    · rintro ⟨k, j, hk, hb, h2⟩
      exact ⟨k, j, hk, hb, (h.ways hs ht n _ _ j u (h.nextP hp (by omega))).2 h2⟩
theorem Ok.leads {s t : Kt} (hs : s.Good) (ht : t.Good) {L : List (List Int)} (h : Ok s.words t.words L) {p q : Int} {st : Nat} {ll : List (List Int)} (hll : ∀ k, k < 3 → Rel st (rowI ll k)) {i u : Nat} (hi : i < st) : s.Leads p q st ll i u ↔ t.Leads p q st ll i u := by
  rw [leads_iff_run hll hs hi, leads_iff_run hll ht hi]
  constructor
  · rintro ⟨n, hn⟩
    exact ⟨n, (runS_one ht n i u).1 ((h.ways hs ht n 1 1 i u h.one).1 ((runS_one hs n i u).2 hn))⟩
  · rintro ⟨n, hn⟩
    exact ⟨n, (runS_one hs n i u).1 ((h.ways hs ht n 1 1 i u h.one).2 ((runS_one ht n i u).2 hn))⟩
theorem Ok.rows {s t : Kt} (hs : s.Good) (ht : t.Good) {L : List (List Int)} (h : Ok s.words t.words L) {p q : Int} {st : Nat} (hst : st ≤ 5) {ll : List (List Int)} (hll : ∀ k, k < 3 → Rel st (rowI ll k)) : s.rows p q st ll = t.rows p q st ll := by
  have r1 := s.rows_rel p q st ll (by omega) hll hs
  have r2 := t.rows_rel p q st ll (by omega) hll ht
  refine ext_natAt _ _ r1.sets r2.sets (by rw [r1.len, r2.len]) fun i hi => bits_eq fun j => ?_
  rw [r1.len] at hi
  exact (leads_iff p q st ll hst hll s hs i hi j).trans ((h.leads hs ht hll hi).trans (leads_iff p q st ll hst hll t ht i hi j).symm)
end Go.Kt
namespace Go.Kt
set_option linter.unusedVariables false

/-- A pair with the trace that leads there. -/
abbrev Way := (Nat × Nat) × List Int
def farW (N M : List (List Int)) (w : Way) (m : Nat) : Way := (nxP N M w.1 m, w.2 ++ [((m / 3 : Nat) : Int), 16 + ((m % 3 : Nat) : Int)])
/-- What is seen, and what is new behind m moves of a pair. -/
def addW (N M : List (List Int)) (so : List (Nat × Nat) × List Way) (w : Way) : Nat → List (Nat × Nat) × List Way
  | 0 => so
  | m + 1 => if nxP N M w.1 m ∈ (addW N M so w m).1 then addW N M so w m else ((addW N M so w m).1 ++ [nxP N M w.1 m], (addW N M so w m).2 ++ [farW N M w m])
def atW (L : List Way) (k : Nat) : Way := L.getD k ((0, 0), [])
theorem atW_getElem (L : List Way) (k : Nat) (h : k < L.length) : atW L k = L[k] := by
  unfold atW; rw [List.getD_eq_getElem?_getD, List.getElem?_eq_getElem h]; rfl
theorem atW_mem {L : List Way} {k : Nat} (h : k < L.length) : atW L k ∈ L := by rw [atW_getElem _ _ h]; exact List.getElem_mem h
/-- Behind the first k pairs of a level. -/
def lvW (N M : List (List Int)) (S : List (Nat × Nat)) (lv : List Way) : Nat → List (Nat × Nat) × List Way
  | 0 => (S, [])
  | k + 1 => addW N M (lvW N M S lv k) (atW lv k) 12
/-- Behind a number of actions. -/
def stW (N M : List (List Int)) : Nat → List (Nat × Nat) × List Way
  | 0 => ([(1, 1)], [((1, 1), [])])
  | a + 1 => lvW N M (stW N M a).1 (stW N M a).2 (stW N M a).2.length
/-- The atoms at which just one of both may end. -/
def apN (E F : List Int) (p : Nat × Nat) : Nat := img E p.1 ^^^ img F p.2
def candW (E F : List Int) (w : Way) : List (List Int) := ((List.range 4).filter fun a => (apN E F w.1).testBit a).map fun a => w.2 ++ [((a : Nat) : Int)]
def candL (E F : List Int) (lv : List Way) : List (List Int) := lv.flatMap (candW E F)
def dfF (E F : List Int) (N M : List (List Int)) : Nat → Nat → Option (List Int)
  | 0, _ => none
  | n + 1, a => match candL E F (stW N M a).2 with
    | t :: _ => some t
    | [] => dfF E F N M n (a + 1)
def difB (e f : List Int) : Bool := (auB e && auB f) && prB (auN e) (auN f)
def difO (e f : List Int) : Option (List Int) := if difB e f then dfF (auE e) (auE f) (auN e) (auN f) 21 0 else none
theorem dfF_none {E F : List Int} {N M : List (List Int)} {n a : Nat} (h : candL E F (stW N M a).2 = []) : dfF E F N M (n + 1) a = dfF E F N M n (a + 1) := by
  show (match candL E F (stW N M a).2 with | t :: _ => some t | [] => _) = _
  rw [h]
theorem dfF_some {E F : List Int} {N M : List (List Int)} {n a : Nat} {t : List Int} {r : List (List Int)} (h : candL E F (stW N M a).2 = t :: r) : dfF E F N M (n + 1) a = some t := by
  show (match candL E F (stW N M a).2 with | t :: _ => some t | [] => _) = _
  rw [h]
theorem dfF_at {E F : List Int} {N M : List (List Int)} : ∀ {n a : Nat} {t : List Int}, dfF E F N M n a = some t → ∃ b r, a ≤ b ∧ b < a + n ∧ candL E F (stW N M b).2 = t :: r ∧ ∀ c, a ≤ c → c < b → candL E F (stW N M c).2 = []
  | 0, a, t, h => by cases h
  | n + 1, a, t, h => by
    cases hc : candL E F (stW N M a).2 with
    | nil =>
      rw [dfF_none hc] at h
      obtain ⟨b, r, h1, h2, h3, h4⟩ := dfF_at h
      refine ⟨b, r, by omega, by omega, h3, fun c hc1 hc2 => ?_⟩
      by_cases e : c = a
      · subst e; exact hc
      · exact h4 c (by omega) hc2
    | cons t' r =>
      rw [dfF_some hc] at h
      obtain rfl := Option.some.inj h
      exact ⟨a, r, Nat.le_refl _, by omega, hc, fun c h1 h2 => by omega⟩
theorem nth_left {l r : List Int} {i : Nat} (h : i < l.length) : nth (l ++ r) i = nth l i := by
  rw [nth_getElem _ _ (by rw [List.length_append]; omega), nth_getElem _ _ h, List.getElem_append_left h]
theorem nth_right {l r : List Int} {i : Nat} (h : i < r.length) : nth (l ++ r) (l.length + i) = nth r i := by
  rw [nth_getElem _ _ (by rw [List.length_append]; omega), nth_getElem _ _ h, List.getElem_append_right (by omega)]
  simp
theorem moveN_left {l r : List Int} {k : Nat} (h : 2 * k + 1 < l.length) : moveN (l ++ r) k = moveN l k := by
  unfold moveN; rw [nth_left (by omega), nth_left h]
theorem runA_left {N : List (List Int)} {l r : List Int} : ∀ k, 2 * k ≤ l.length → runA N (l ++ r) k = runA N l k
  | 0, _ => rfl
  | k + 1, h => by
    show stp N (runA N (l ++ r) k) (moveN (l ++ r) k) = stp N (runA N l k) (moveN l k)
    rw [runA_left k (by omega), moveN_left (by omega)]
structure WayOk (N M : List (List Int)) (a : Nat) (w : Way) : Prop where
  len : w.2.length = 2 * a
  tok : ∀ j, j < w.2.length → tokB w.2 j = true
  one : w.1 = (runA N w.2 a, runA M w.2 a)
theorem farW_ok {N M : List (List Int)} {a : Nat} {w : Way} (h : WayOk N M a w) {m : Nat} (hm : m < 12) : WayOk N M (a + 1) (farW N M w m) := by
  have hn0 : nth [((m / 3 : Nat) : Int), 16 + ((m % 3 : Nat) : Int)] 0 = ((m / 3 : Nat) : Int) := rfl
  have hn1 : nth [((m / 3 : Nat) : Int), 16 + ((m % 3 : Nat) : Int)] 1 = 16 + ((m % 3 : Nat) : Int) := rfl
  have e0 : nth (farW N M w m).2 (2 * a) = ((m / 3 : Nat) : Int) := by
    have := nth_right (l := w.2) (r := [((m / 3 : Nat) : Int), 16 + ((m % 3 : Nat) : Int)]) (i := 0) (by simp)
    rw [h.len] at this; exact this.trans hn0
  have e1 : nth (farW N M w m).2 (2 * a + 1) = 16 + ((m % 3 : Nat) : Int) := by
    have := nth_right (l := w.2) (r := [((m / 3 : Nat) : Int), 16 + ((m % 3 : Nat) : Int)]) (i := 1) (by simp)
    rw [h.len] at this; exact this.trans hn1
  have hl : (farW N M w m).2.length = 2 * a + 2 := by simp [farW, h.len]
  have hm' : moveN (farW N M w m).2 a = m := by unfold moveN; rw [e0, e1]; omega
  refine ⟨by rw [hl]; omega, fun j hj => ?_, ?_⟩
  · rw [hl] at hj
    by_cases h1 : j < 2 * a
    · have h2 := h.tok j (by rw [h.len]; exact h1)
      unfold tokB at h2 ⊢
      have : nth (farW N M w m).2 j = nth w.2 j := nth_left (by rw [h.len]; exact h1)
      rw [this]; exact h2
    · by_cases h3 : j = 2 * a
      · subst h3
        rw [tokB_even (by omega), e0]
        simp [inR]; omega
      · obtain rfl : j = 2 * a + 1 := by omega
        rw [tokB_odd (by omega), e1]
        simp [inR]; omega
  · show nxP N M w.1 m = (stp N (runA N (farW N M w m).2 a) (moveN (farW N M w m).2 a), stp M (runA M (farW N M w m).2 a) (moveN (farW N M w m).2 a))
    rw [hm']
    have r1 : runA N (farW N M w m).2 a = runA N w.2 a := runA_left a (by rw [h.len]; omega)
    have r2 : runA M (farW N M w m).2 a = runA M w.2 a := runA_left a (by rw [h.len]; omega)
    rw [r1, r2]
    unfold nxP
    rw [h.one]
theorem addW_ok {N M : List (List Int)} {a : Nat} {so : List (Nat × Nat) × List Way} {w : Way} (hw : WayOk N M a w) (hs : ∀ v, v ∈ so.2 → WayOk N M (a + 1) v) : ∀ m, m ≤ 12 → ∀ v, v ∈ (addW N M so w m).2 → WayOk N M (a + 1) v
  | 0, _, v, hv => hs v hv
  | m + 1, hm, v, hv => by
    unfold addW at hv
    split at hv
    · exact addW_ok hw hs m (by omega) v hv
    · rcases List.mem_append.1 hv with hv | hv
      · exact addW_ok hw hs m (by omega) v hv
      · simp at hv; subst hv
        exact farW_ok hw (by omega)
theorem lvW_ok {N M : List (List Int)} {a : Nat} {S : List (Nat × Nat)} {lv : List Way} (hl : ∀ v, v ∈ lv → WayOk N M a v) : ∀ k, k ≤ lv.length → ∀ v, v ∈ (lvW N M S lv k).2 → WayOk N M (a + 1) v
  | 0, _, v, hv => by cases hv
  | k + 1, hk, v, hv => addW_ok (hl _ (atW_mem (by omega))) (lvW_ok hl k (by omega)) 12 (Nat.le_refl _) v hv
theorem stW_ok (N M : List (List Int)) : ∀ a v, v ∈ (stW N M a).2 → WayOk N M a v
  | 0, v, hv => by
    simp [stW] at hv; subst hv
    exact ⟨rfl, fun j hj => by simp at hj, rfl⟩
  | a + 1, v, hv => lvW_ok (stW_ok N M a) _ (Nat.le_refl _) v hv
theorem mem_candW {E F : List Int} {w : Way} {t : List Int} : t ∈ candW E F w ↔ ∃ a : Nat, a < 4 ∧ (apN E F w.1).testBit a = true ∧ t = w.2 ++ [(a : Int)] := by
  unfold candW
  rw [List.mem_map]
  constructor
  · rintro ⟨a, ha, rfl⟩
    rw [List.mem_filter, List.mem_range] at ha
    exact ⟨a, ha.1, ha.2, rfl⟩
  · rintro ⟨a, h1, h2, rfl⟩
    exact ⟨a, by rw [List.mem_filter, List.mem_range]; exact ⟨h1, h2⟩, rfl⟩
theorem mem_candL {E F : List Int} {lv : List Way} {t : List Int} : t ∈ candL E F lv ↔ ∃ w, w ∈ lv ∧ ∃ a : Nat, a < 4 ∧ (apN E F w.1).testBit a = true ∧ t = w.2 ++ [(a : Int)] := by
  unfold candL
  rw [List.mem_flatMap]
  exact ⟨fun ⟨w, h1, h2⟩ => ⟨w, h1, mem_candW.1 h2⟩, fun ⟨w, h1, h2⟩ => ⟨w, h1, mem_candW.2 h2⟩⟩
theorem way_trace {N M : List (List Int)} {a x : Nat} {w : Way} (h : WayOk N M a w) (ha : a ≤ 20) (hx : x < 4) : tvB (w.2 ++ [(x : Int)]) = true ∧ (w.2 ++ [(x : Int)]).length = 2 * a + 1 ∧ nth (w.2 ++ [(x : Int)]) (2 * a) = x := by
  have hl : (w.2 ++ [(x : Int)]).length = 2 * a + 1 := by rw [List.length_append, h.len]; rfl
  have he : nth (w.2 ++ [(x : Int)]) (2 * a) = x := by
    have := nth_right (l := w.2) (r := [(x : Int)]) (i := 0) (by simp)
    rw [h.len] at this; exact this
  refine ⟨?_, hl, he⟩
  rw [tvB_all (fun j hj => ?_), hl]
  · simp; omega
  · rw [hl] at hj
    by_cases h1 : j < 2 * a
    · have h2 := h.tok j (by rw [h.len]; exact h1)
      unfold tokB at h2 ⊢
      rw [nth_left (by rw [h.len]; exact h1)]; exact h2
    · obtain rfl : j = 2 * a := by omega
      rw [tokB_even (by omega), he]
      simp [inR]; omega
theorem apN_bit {E F : List Int} {p : Nat × Nat} {a : Nat} : (apN E F p).testBit a = true ↔ (img E p.1).testBit a ≠ (img F p.2).testBit a := by
  unfold apN
  rw [Nat.testBit_xor]
  cases (img E p.1).testBit a <;> cases (img F p.2).testBit a <;> simp
theorem tb_way {s t : Kt} (hs : s.Good) (ht : t.Good) (h1 : auB s.words = true) (h2 : auB t.words = true) {a x : Nat} {w : Way} (h : WayOk (auN s.words) (auN t.words) a w) (ha : a ≤ 20) (hx : x < 4) : tbB s.words (w.2 ++ [(x : Int)]) ≠ tbB t.words (w.2 ++ [(x : Int)]) ↔ (apN (auE s.words) (auE t.words) w.1).testBit x = true := by
  obtain ⟨k1, k2, k3⟩ := way_trace h ha hx
  rw [tbB_runA hs h1 k1, tbB_runA ht h2 k1, k2, show (2 * a + 1) / 2 = a by omega, show 2 * a + 1 - 1 = 2 * a by omega, k3, Int.toNat_natCast, runA_left a (by rw [h.len]; omega), runA_left a (by rw [h.len]; omega), apN_bit, h.one]
theorem difB_of {e f : List Int} (h : difB e f = true) : auB e = true ∧ auB f = true ∧ prB (auN e) (auN f) = true := by unfold difB at h; simpa [and_assoc] using h
/-- What is told differs. -/
theorem difO_at {e f t : List Int} (h : difO e f = some t) : difB e f = true ∧ ∃ b r, b ≤ 20 ∧ candL (auE e) (auE f) (stW (auN e) (auN f) b).2 = t :: r ∧ ∀ c, c < b → candL (auE e) (auE f) (stW (auN e) (auN f) c).2 = [] := by
  unfold difO at h
  split at h
  · rename_i hd
    obtain ⟨b, r, h1, h2, h3, h4⟩ := dfF_at h
    exact ⟨hd, b, r, by omega, h3, fun c hc => h4 c (by omega) hc⟩
  · cases h
theorem difO_tb {e f t : List Int} (h : difO e f = some t) : tvB t = true ∧ tbB e t ≠ tbB f t := by
  obtain ⟨hd, b, r, hb, hc, -⟩ := difO_at h
  obtain ⟨h1, h2, -⟩ := difB_of hd
  obtain ⟨x, hx, rfl⟩ := kvB_tree (auB_kv h1).1
  obtain ⟨y, hy, rfl⟩ := kvB_tree (auB_kv h2).1
  obtain ⟨w, hw, a, ha, hap, rfl⟩ := mem_candL.1 (show t ∈ _ by rw [hc]; simp)
  have hok := stW_ok _ _ b w hw
  exact ⟨(way_trace hok hb ha).1, (tb_way hx hy h1 h2 hok hb ha).2 hap⟩
theorem difO_pos {e f t : List Int} (h : difO e f = some t) : 1 ≤ t.length ∧ t.length ≤ 41 := by
  have := tvB_len (difO_tb h).1
  omega
/-- Equal ones are not told to differ. -/
theorem difO_ok {e f : List Int} {L : List (List Int)} (h : Ok e f L) : difO e f = none := by
  cases hd : difO e f with
  | none => rfl
  | some t => exact absurd (h.tb t) (difO_tb hd).2
def eqF (e f : List Int) : Int := if okB e f (prsF e f) then 1 else if (difO e f).isSome then 0 else -1
theorem eqF_range (e f : List Int) : eqF e f = 1 ∨ eqF e f = 0 ∨ eqF e f = -1 := by
  unfold eqF
  split
  · exact .inl rfl
  · split
    · exact .inr (.inl rfl)
    · exact .inr (.inr rfl)
theorem eqF_zero {e f : List Int} (h : ∀ t, tvB t = true → auB e = true → auB f = true → tbB e t = tbB f t) : eqF e f ≠ 0 := by
  unfold eqF
  split
  · decide
  · split
    · rename_i hs
      obtain ⟨t, ht⟩ := Option.isSome_iff_exists.1 hs
      obtain ⟨h1, h2⟩ := difO_tb ht
      obtain ⟨h3, h4, -⟩ := difB_of (difO_at ht).1
      exact absurd (h t h1 h3 h4) h2
    · decide
theorem eqF_one {e f : List Int} (h : eqF e f = 1) : Ok e f (prsF e f) := by
  unfold eqF at h
  split at h
  · rename_i hk; exact (okB_iff e f _).1 hk
  · split at h <;> cases h
def swp (p : Nat × Nat) : Nat × Nat := (p.2, p.1)
theorem swp_inj {p q : Nat × Nat} (h : swp p = swp q) : p = q := by
  unfold swp at h
  have h1 := congrArg Prod.fst h
  have h2 := congrArg Prod.snd h
  exact Prod.ext h2 h1
theorem mem_swp {p : Nat × Nat} {L : List (Nat × Nat)} : swp p ∈ L.map swp ↔ p ∈ L := by
  rw [List.mem_map]
  exact ⟨fun ⟨q, h1, h2⟩ => by rw [← swp_inj h2]; exact h1, fun h => ⟨p, h, rfl⟩⟩
theorem addP_swp (N M : List (List Int)) (out : List (Nat × Nat)) (p : Nat × Nat) : ∀ m, addP M N (out.map swp) (swp p) m = (addP N M out p m).map swp
  | 0 => rfl
  | m + 1 => by
    unfold addP
    rw [addP_swp N M out p m, show nxP M N (swp p) m = swp (nxP N M p m) from rfl]
    by_cases h : nxP N M p m ∈ addP N M out p m
    · rw [if_pos h, if_pos (mem_swp.2 h)]
    · rw [if_neg h, if_neg (fun h' => h (mem_swp.1 h')), List.map_append]; rfl
theorem atP_swp (L : List (Nat × Nat)) (k : Nat) : atP (L.map swp) k = swp (atP L k) := by
  unfold atP
  rw [List.getD_eq_getElem?_getD, List.getD_eq_getElem?_getD, List.getElem?_map]
  cases L[k]? <;> rfl
theorem clP_swp (N M : List (List Int)) : ∀ k, clP M N k = (clP N M k).map swp
  | 0 => rfl
  | k + 1 => by
    unfold clP
    rw [clP_swp N M k, List.length_map, atP_swp, addP_swp]
    split <;> rfl
theorem prB_swp (N M : List (List Int)) : prB M N = prB N M := by unfold prB; rw [clP_swp N M, List.length_map]
theorem prsF_swp (e f : List Int) : prsF f e = (prsF e f).map turnR := by
  unfold prsF prL
  rw [prB_swp (auN e) (auN f), Bool.and_comm, clP_swp (auN e) (auN f)]
  split
  · split
    · rw [List.map_map, List.map_map]; rfl
    · rfl
  · rfl
theorem ok_swp {e f : List Int} (h : Ok e f (prsF e f)) : Ok f e (prsF f e) := by
  refine h.turn (by rw [prsF_swp, List.length_map]) fun r => ?_
  rw [prsF_swp, List.mem_map]
def swW (w : Way) : Way := (swp w.1, w.2)
theorem addW_swp (N M : List (List Int)) (so : List (Nat × Nat) × List Way) (w : Way) : ∀ m, addW M N (so.1.map swp, so.2.map swW) (swW w) m = ((addW N M so w m).1.map swp, (addW N M so w m).2.map swW)
  | 0 => rfl
  | m + 1 => by
    unfold addW
    rw [addW_swp N M so w m, show nxP M N (swW w).1 m = swp (nxP N M w.1 m) from rfl]
    by_cases h : nxP N M w.1 m ∈ (addW N M so w m).1
    · rw [if_pos h, if_pos (mem_swp.2 h)]
    · rw [if_neg h, if_neg (fun h' => h (mem_swp.1 h')), List.map_append, List.map_append]; rfl
theorem atW_swp (L : List Way) (k : Nat) : atW (L.map swW) k = swW (atW L k) := by
  unfold atW
  rw [List.getD_eq_getElem?_getD, List.getD_eq_getElem?_getD, List.getElem?_map]
  cases L[k]? <;> rfl
theorem lvW_swp (N M : List (List Int)) (S : List (Nat × Nat)) (lv : List Way) : ∀ k, lvW M N (S.map swp) (lv.map swW) k = ((lvW N M S lv k).1.map swp, (lvW N M S lv k).2.map swW)
  | 0 => rfl
  | k + 1 => by
    unfold lvW
    rw [lvW_swp N M S lv k, atW_swp, addW_swp]
theorem stW_swp (N M : List (List Int)) : ∀ a, stW M N a = ((stW N M a).1.map swp, (stW N M a).2.map swW)
  | 0 => rfl
  | a + 1 => by
    unfold stW
    rw [stW_swp N M a]
    simp only []
    rw [lvW_swp, List.length_map]
theorem candL_swp (E F : List Int) : ∀ lv : List Way, candL F E (lv.map swW) = candL E F lv
  | [] => rfl
  | w :: lv => by
    have ih := candL_swp E F lv
    unfold candL at ih ⊢
    rw [List.map_cons, List.flatMap_cons, List.flatMap_cons, ih]
    congr 1
    unfold candW apN swW swp
    rw [Nat.xor_comm]
theorem dfF_swp (E F : List Int) (N M : List (List Int)) : ∀ n a, dfF F E M N n a = dfF E F N M n a
  | 0, _ => rfl
  | n + 1, a => by
    have ih := dfF_swp E F N M n (a + 1)
    unfold dfF
    rw [stW_swp N M a, candL_swp, ih]
theorem difO_swp (e f : List Int) : difO f e = difO e f := by
  unfold difO difB
  rw [prB_swp (auN e) (auN f), Bool.and_comm (auB f), dfF_swp (auE e)]
theorem eqF_swp (e f : List Int) : eqF f e = eqF e f := by
  have hk : okB f e (prsF f e) = okB e f (prsF e f) := by
    rw [Bool.eq_iff_iff, okB_iff, okB_iff]
    exact ⟨ok_swp, ok_swp⟩
  unfold eqF
  rw [hk, difO_swp]
theorem eqF_self (e : List Int) : eqF e e ≠ 0 := eqF_zero fun t _ _ _ => rfl
end Go.Kt
namespace Go.Kt
set_option linter.unusedVariables false

theorem ltL_pre : ∀ (a x y : List Int), ltL (a ++ x) (a ++ y) = ltL x y
  | [], _, _ => rfl
  | c :: a, x, y => by
    show (if c < c then true else if c < c then false else ltL (a ++ x) (a ++ y)) = _
    rw [if_neg (by omega), if_neg (by omega)]
    exact ltL_pre a x y
theorem ltL_app : ∀ {a b : List Int} (x y : List Int), a.length = b.length → ltL a b = true → ltL (a ++ x) (b ++ y) = true
  | [], [], _, _, _, h => by cases h
  | [], _ :: _, _, _, hl, _ => by simp at hl
  | _ :: _, [], _, _, hl, _ => by simp at hl
  | c :: a, d :: b, x, y, hl, h => by
    have h : (if c < d then true else if d < c then false else ltL a b) = true := h
    show (if c < d then true else if d < c then false else ltL (a ++ x) (b ++ y)) = true
    by_cases h1 : c < d
    · rw [if_pos h1]
    · rw [if_neg h1] at h ⊢
      by_cases h2 : d < c
      · rw [if_pos h2] at h; cases h
      · rw [if_neg h2] at h ⊢
        exact ltL_app x y (by simpa using hl) h
theorem far_lt : ∀ m' : Nat, m' < 12 → ∀ m : Nat, m < m' → ltL [((m / 3 : Nat) : Int), 16 + ((m % 3 : Nat) : Int)] [((m' / 3 : Nat) : Int), 16 + ((m' % 3 : Nat) : Int)] = true := by decide
def LtW (v w : Way) : Prop := ltL v.2 w.2 = true
section
variable {N M : List (List Int)}
theorem farW_lt (w : Way) {m m' : Nat} (h : m < m') (h' : m' < 12) : LtW (farW N M w m) (farW N M w m') := by
  show ltL (w.2 ++ _) (w.2 ++ _) = true
  rw [ltL_pre]; exact far_lt m' h' m h
theorem mem_addW {so : List (Nat × Nat) × List Way} {w v : Way} : ∀ m, v ∈ (addW N M so w m).2 → v ∈ so.2 ∨ ∃ m', m' < m ∧ v = farW N M w m'
  | 0, h => .inl h
  | m + 1, h => by
    unfold addW at h
    split at h
    · rcases mem_addW m h with h | ⟨m', h1, h2⟩
      · exact .inl h
      · exact .inr ⟨m', by omega, h2⟩
    · rcases List.mem_append.1 h with h | h
      · rcases mem_addW m h with h | ⟨m', h1, h2⟩
        · exact .inl h
        · exact .inr ⟨m', by omega, h2⟩
      · simp at h
        exact .inr ⟨m, by omega, h⟩
theorem addW_asc {so : List (Nat × Nat) × List Way} {w : Way} (hs : so.2.Pairwise LtW) (hb : ∀ v, v ∈ so.2 → ∀ m, m < 12 → LtW v (farW N M w m)) : ∀ m, m ≤ 12 → (addW N M so w m).2.Pairwise LtW
  | 0, _ => hs
  | m + 1, hm => by
    have ih := addW_asc hs hb m (by omega)
    unfold addW
    split
    · exact ih
    · show List.Pairwise LtW ((addW N M so w m).2 ++ [farW N M w m])
      rw [List.pairwise_append]
      refine ⟨ih, by simp, fun v hv u hu => ?_⟩
      simp at hu; subst hu
      rcases mem_addW m hv with h | ⟨m', h1, rfl⟩
      · exact hb v h m (by omega)
      · exact farW_lt w h1 (by omega)
theorem atW_lt {lv : List Way} (h : lv.Pairwise LtW) {i k : Nat} (hik : i < k) (hk : k < lv.length) : LtW (atW lv i) (atW lv k) := by
  rw [atW_getElem _ _ (by omega), atW_getElem _ _ hk]
  exact List.pairwise_iff_getElem.1 h i k _ _ hik
theorem lvW_asc {S : List (Nat × Nat)} {lv : List Way} {a : Nat} (hl : lv.Pairwise LtW) (ha : ∀ v, v ∈ lv → v.2.length = a) : ∀ k, k ≤ lv.length → (lvW N M S lv k).2.Pairwise LtW ∧ ∀ v, v ∈ (lvW N M S lv k).2 → ∀ i, k ≤ i → i < lv.length → ∀ m, m < 12 → LtW v (farW N M (atW lv i) m)
  | 0, _ => ⟨List.Pairwise.nil, fun v hv => by cases hv⟩
  | k + 1, hk => by
    obtain ⟨h1, h2⟩ := lvW_asc hl ha k (by omega)
    refine ⟨addW_asc h1 (fun v hv m hm => h2 v hv k (Nat.le_refl _) (by omega) m hm) 12 (Nat.le_refl _), fun v hv i hi hil m hm => ?_⟩
    rcases mem_addW 12 hv with h | ⟨m', h3, rfl⟩
    · exact h2 v h i (by omega) hil m hm
    · exact ltL_app _ _ (by rw [ha _ (atW_mem (by omega)), ha _ (atW_mem hil)]) (atW_lt hl (show k < i by omega) hil)
theorem stW_asc : ∀ a, (stW N M a).2.Pairwise LtW
  | 0 => by simp [stW]
  | a + 1 => (lvW_asc (S := (stW N M a).1) (a := 2 * a) (stW_asc a) (fun v hv => (stW_ok N M a v hv).len) _ (Nat.le_refl _)).1
end
theorem candW_asc (E F : List Int) (w : Way) : (candW E F w).Pairwise fun x y => ltL x y = true := by
  unfold candW
  refine List.Pairwise.map _ (R := fun a b => a < b) (fun a b hab => ?_) (List.Pairwise.filter _ List.pairwise_lt_range)
  rw [ltL_pre]
  show (if (a : Int) < (b : Int) then true else _) = true
  rw [if_pos (by omega)]
theorem candL_asc (E F : List Int) {a : Nat} : ∀ {lv : List Way}, lv.Pairwise LtW → (∀ v, v ∈ lv → v.2.length = a) → (candL E F lv).Pairwise fun x y => ltL x y = true
  | [], _, _ => List.Pairwise.nil
  | w :: lv, h, ha => by
    have hw := List.pairwise_cons.1 h
    show (candW E F w ++ candL E F lv).Pairwise _
    rw [List.pairwise_append]
    refine ⟨candW_asc E F w, candL_asc E F hw.2 (fun v hv => ha v (List.mem_cons_of_mem _ hv)), fun x hx y hy => ?_⟩
    obtain ⟨b, -, -, rfl⟩ := mem_candW.1 hx
    obtain ⟨v, hv, c, -, -, rfl⟩ := mem_candL.1 hy
    exact ltL_app _ _ (by rw [ha w (by simp), ha v (List.mem_cons_of_mem _ hv)]) (hw.1 v hv)
theorem cand_first {E F : List Int} {N M : List (List Int)} {a : Nat} {t : List Int} {r : List (List Int)} (h : candL E F (stW N M a).2 = t :: r) {x : List Int} (hx : x ∈ candL E F (stW N M a).2) : x = t ∨ ltL t x = true := by
  have hs := candL_asc E F (a := 2 * a) (stW_asc (N := N) (M := M) a) (fun v hv => (stW_ok N M a v hv).len)
  rw [h] at hs hx
  rcases List.mem_cons.1 hx with rfl | hx
  · exact .inl rfl
  · exact .inr ((List.pairwise_cons.1 hs).1 x hx)
theorem addW_found {N M : List (List Int)} {so : List (Nat × Nat) × List Way} {w : Way} {m : Nat} : ∀ k, m < k → nxP N M w.1 m ∈ so.1 ∨ ∃ m', m' ≤ m ∧ farW N M w m' ∈ (addW N M so w k).2 ∧ nxP N M w.1 m' = nxP N M w.1 m := by
  have hin : ∀ k x, x ∈ (addW N M so w k).1 → x ∈ so.1 ∨ ∃ m', m' < k ∧ farW N M w m' ∈ (addW N M so w k).2 ∧ nxP N M w.1 m' = x := by
    intro k
    induction k with
    | zero => intro x hx; exact .inl hx
    | succ k ih =>
      intro x hx
      unfold addW at hx ⊢
      split at hx
      · rename_i h
        rw [if_pos h]
        rcases ih x hx with h1 | ⟨m', h1, h2, h3⟩
        · exact .inl h1
        · exact .inr ⟨m', by omega, h2, h3⟩
      · rename_i h
        rw [if_neg h]
        rcases List.mem_append.1 hx with hx | hx
        · rcases ih x hx with h1 | ⟨m', h1, h2, h3⟩
          · exact .inl h1
          · exact .inr ⟨m', by omega, List.mem_append.2 (.inl h2), h3⟩
        · simp at hx
          exact .inr ⟨k, by omega, List.mem_append.2 (.inr (by simp)), hx.symm⟩
  have hmono : ∀ d j v, v ∈ (addW N M so w j).2 → v ∈ (addW N M so w (j + d)).2 := by
    intro d j v hv
    induction d with
    | zero => exact hv
    | succ d ih =>
      show v ∈ (addW N M so w (j + d + 1)).2
      unfold addW
      split
      · exact ih
      · exact List.mem_append.2 (.inl ih)
  intro k hk
  have hm1 : nxP N M w.1 m ∈ (addW N M so w (m + 1)).1 := by
    unfold addW
    split
    · rename_i h; exact h
    · exact List.mem_append.2 (.inr (by simp))
  rcases hin (m + 1) _ hm1 with h | ⟨m', h1, h2, h3⟩
  · exact .inl h
  · refine .inr ⟨m', by omega, ?_, h3⟩
    have := hmono (k - (m + 1)) (m + 1) _ h2
    rwa [show m + 1 + (k - (m + 1)) = k by omega] at this
theorem difO_least {e f t tr : List Int} (h : difO e f = some t) (hv : tvB tr = true) (hl : tr.length ≤ 3) (hb : tr.length < t.length ∨ (tr.length = t.length ∧ ltL tr t = true)) : tbB e tr = tbB f tr := by
  obtain ⟨hd, b, r, hb20, hc, hn⟩ := difO_at h
  obtain ⟨h1, h2, -⟩ := difB_of hd
  obtain ⟨x, hx, rfl⟩ := kvB_tree (auB_kv h1).1
  obtain ⟨y, hy, rfl⟩ := kvB_tree (auB_kv h2).1
  by_cases hne : tbB x.words tr = tbB y.words tr
  · exact hne
  exfalso
  have htl : t.length = 2 * b + 1 := by
    obtain ⟨w, hw, a, ha, -, rfl⟩ := mem_candL.1 (show t ∈ _ by rw [hc]; simp)
    exact (way_trace (stW_ok _ _ b w hw) hb20 ha).2.1
  have h0 : ∀ {a' : Nat} {z : List Int}, z ∈ candL (auE x.words) (auE y.words) (stW (auN x.words) (auN y.words) a').2 → a' < b → False := fun hz hlt => by
    rw [hn _ hlt] at hz; cases hz
  have hW0 : WayOk (auN x.words) (auN y.words) 0 ((1, 1), []) := stW_ok _ _ 0 _ (by simp [stW])
  have hin0 : ∀ c : Nat, c < 4 → (apN (auE x.words) (auE y.words) (1, 1)).testBit c = true → [(c : Int)] ∈ candL (auE x.words) (auE y.words) (stW (auN x.words) (auN y.words) 0).2 := fun c hc4 hbit =>
    mem_candL.2 ⟨((1, 1), []), by simp [stW], c, hc4, hbit, rfl⟩
  have hlen := tvB_len hv
  have t0 := tvB_tok hv (k := 0) (by omega)
  rw [tokB_even (by omega)] at t0
  simp only [inR, decide_eq_true_eq] at t0
  have hlt : ¬ (ltL t tr = true ∨ tr = t) ∨ tr.length ≠ t.length := by
    rcases hb with hb | ⟨-, hb⟩
    · exact .inr (by omega)
    · refine .inl ?_
      rintro (h3 | rfl)
      · rw [ltL_asymm hb] at h3; cases h3
      · rw [ltL_irr] at hb; cases hb
  rcases (show tr.length = 1 ∨ tr.length = 3 by omega) with hl1 | hl3
  · match tr, hl1 with
    | [z], _ =>
      have e0 : nth [z] 0 = z := rfl
      rw [e0] at t0
      obtain ⟨c, rfl⟩ : ∃ c : Nat, z = c := ⟨z.toNat, by omega⟩
      have hbit := (tb_way hx hy h1 h2 hW0 (by omega) (show c < 4 by omega)).1 hne
      have hm := hin0 c (by omega) hbit
      obtain rfl : b = 0 := by
        rcases Nat.eq_zero_or_pos b with e | e
        · exact e
        · exact (h0 hm e).elim
      rcases cand_first hc hm with e | e
      · rcases hlt with h3 | h3
        · exact h3 (.inr e)
        · simp at h3; omega
      · rcases hlt with h3 | h3
        · exact h3 (.inl e)
        · simp at h3; omega
  · match tr, hl3 with
    | [z, k, u], _ =>
      have e0 : nth [z, k, u] 0 = z := rfl
      rw [e0] at t0
      have t1 := tvB_tok hv (k := 1) (by simp)
      rw [tokB_odd (by omega)] at t1
      have t2 := tvB_tok hv (k := 2) (by simp)
      rw [tokB_even (by omega)] at t2
      simp only [inR, decide_eq_true_eq] at t1 t2
      have e1 : nth [z, k, u] 1 = k := rfl
      have e2 : nth [z, k, u] 2 = u := rfl
      rw [e1] at t1
      rw [e2] at t2
      obtain ⟨c, rfl⟩ : ∃ c : Nat, u = c := ⟨u.toNat, by omega⟩
      obtain ⟨m, hm12, hm1, hm2⟩ : ∃ m : Nat, m < 12 ∧ z = ((m / 3 : Nat) : Int) ∧ k = 16 + ((m % 3 : Nat) : Int) := ⟨(3 * z + k - 16).toNat, by omega, by omega, by omega⟩
      have hb1 : 1 ≤ b := by
        rcases Nat.eq_zero_or_pos b with e | e
        · subst e; simp at hb htl; omega
        · exact e
      have htr : [z, k, (c : Int)] = (farW (auN x.words) (auN y.words) ((1, 1), []) m).2 ++ [(c : Int)] := by rw [hm1, hm2]; rfl
      rw [htr] at hne hlt
      have hW1 := farW_ok hW0 hm12
      have hbit := (tb_way hx hy h1 h2 hW1 (by omega) (show c < 4 by omega)).1 hne
      have hst1 : (stW (auN x.words) (auN y.words) 1).2 = (addW (auN x.words) (auN y.words) ([(1, 1)], []) ((1, 1), []) 12).2 := rfl
      rcases addW_found (N := auN x.words) (M := auN y.words) (so := ([(1, 1)], [])) (w := ((1, 1), [])) 12 hm12 with h3 | ⟨m', h3, h4, h5⟩
      · have h3 : nxP (auN x.words) (auN y.words) (1, 1) m = (1, 1) := by simpa using h3
        have : (farW (auN x.words) (auN y.words) ((1, 1), []) m).1 = (1, 1) := h3
        rw [this] at hbit
        exact h0 (hin0 c (by omega) hbit) hb1
      · rw [← hst1] at h4
        have hbit' : (apN (auE x.words) (auE y.words) (farW (auN x.words) (auN y.words) ((1, 1), []) m').1).testBit c = true := by
          show (apN _ _ (nxP _ _ _ m')).testBit c = true
          rw [h5]; exact hbit
        have hmem := mem_candL.2 ⟨_, h4, c, (show c < 4 by omega), hbit', rfl⟩
        obtain rfl : b = 1 := by
          rcases Nat.lt_or_ge 1 b with e | e
          · exact (h0 hmem e).elim
          · omega
        have hle : ltL t ((farW (auN x.words) (auN y.words) ((1, 1), []) m').2 ++ [(c : Int)]) = true ∨ (farW (auN x.words) (auN y.words) ((1, 1), []) m').2 ++ [(c : Int)] = t := by
          rcases cand_first hc hmem with e | e
          · exact .inr e
          · exact .inl e
        have hfl : ((farW (auN x.words) (auN y.words) ((1, 1), []) m).2 ++ [(c : Int)]).length = t.length := by rw [htl]; rfl
        rcases hlt with h6 | h6
        · apply h6
          by_cases e : m' = m
          · subst e
            rcases hle with h7 | h7
            · exact .inl h7
            · exact .inr h7
          · have hlt2 : ltL ((farW (auN x.words) (auN y.words) ((1, 1), []) m').2 ++ [(c : Int)]) ((farW (auN x.words) (auN y.words) ((1, 1), []) m).2 ++ [(c : Int)]) = true :=
              ltL_app _ _ rfl (farW_lt _ (by omega) hm12)
            rcases hle with h7 | h7
            · exact .inl (ltL_trans h7 hlt2)
            · rw [← h7]; exact .inl hlt2
        · exact h6 hfl
def bsA (E F : List Int) (w : Way) (best : List Int) : Nat → List Int
  | 0 => best
  | j + 1 => if (apN E F w.1).testBit (3 - j) = true ∧ (bsA E F w best j = [] ∨ ltL (w.2 ++ [((3 - j : Nat) : Int)]) (bsA E F w best j) = true) then w.2 ++ [((3 - j : Nat) : Int)] else bsA E F w best j
def bsL (E F : List Int) (lv : List Way) : Nat → List Int
  | 0 => []
  | k + 1 => bsA E F (atW lv k) (bsL E F lv k) 4
theorem bsA_had {E F : List Int} {w : Way} {t : List Int} (ht : t ≠ []) (h : ∀ x, x < 4 → ltL t (w.2 ++ [((x : Nat) : Int)]) = true) : ∀ j, j ≤ 4 → bsA E F w t j = t
  | 0, _ => rfl
  | j + 1, hj => by
    unfold bsA
    rw [bsA_had ht h j (by omega), if_neg]
    rintro ⟨-, h1 | h1⟩
    · exact ht h1
    · rw [ltL_asymm (h _ (by omega))] at h1; cases h1
theorem bsA_new (E F : List Int) (w : Way) : bsA E F w [] 4 = (candW E F w).headD [] := by
  have hne : ∀ a : Nat, w.2 ++ [((a : Nat) : Int)] ≠ [] := fun a => by simp
  have hlt : ∀ a b : Nat, a < b → ltL (w.2 ++ [((a : Nat) : Int)]) (w.2 ++ [((b : Nat) : Int)]) = true := fun a b hab => by
    rw [ltL_pre]
    show (if (a : Int) < (b : Int) then true else _) = true
    rw [if_pos (by omega)]
  have l01 := hlt 0 1 (by omega)
  have l02 := hlt 0 2 (by omega)
  have l03 := hlt 0 3 (by omega)
  have l12 := hlt 1 2 (by omega)
  have l13 := hlt 1 3 (by omega)
  have l23 := hlt 2 3 (by omega)
  unfold candW
  simp only [bsA, show List.range 4 = [0, 1, 2, 3] from rfl, Nat.sub_zero, show 3 - 1 = 2 from rfl, show 3 - 2 = 1 from rfl, show 3 - 3 = 0 from rfl]
  cases h0 : (apN E F w.1).testBit 0 <;> cases h1 : (apN E F w.1).testBit 1 <;> cases h2 : (apN E F w.1).testBit 2 <;> cases h3 : (apN E F w.1).testBit 3 <;> simp_all
theorem bsL_head {E F : List Int} {lv : List Way} {a : Nat} (hs : lv.Pairwise LtW) (ha : ∀ v, v ∈ lv → v.2.length = a) : ∀ k, k ≤ lv.length → bsL E F lv k = (candL E F (lv.take k)).headD []
  | 0, _ => by simp [bsL, candL]
  | k + 1, hk => by
    have hkl : k < lv.length := by omega
    have e : lv.take (k + 1) = lv.take k ++ [atW lv k] := by rw [List.take_add_one, List.getElem?_eq_getElem hkl, atW_getElem _ _ hkl]; rfl
    have e2 : candL E F (lv.take (k + 1)) = candL E F (lv.take k) ++ candW E F (atW lv k) := by rw [e]; unfold candL; simp
    show bsA E F (atW lv k) (bsL E F lv k) 4 = _
    rw [bsL_head hs ha k (by omega), e2]
    cases hc : candL E F (lv.take k) with
    | nil => simpa using bsA_new E F (atW lv k)
    | cons t r =>
      show bsA E F (atW lv k) t 4 = t
      obtain ⟨w, hw, b, -, -, rfl⟩ := mem_candL.1 (show t ∈ candL E F (lv.take k) by rw [hc]; simp)
      refine bsA_had (by simp) (fun x hx => ?_) 4 (Nat.le_refl _)
      obtain ⟨i, hi, hie⟩ := List.mem_iff_getElem.1 hw
      rw [List.length_take] at hi
      rw [List.getElem_take] at hie
      have hlt := atW_lt hs (show i < k by omega) hkl
      rw [atW_getElem _ _ (show i < lv.length by omega), hie] at hlt
      exact ltL_app _ _ (by rw [ha w (List.mem_of_mem_take hw), ha _ (atW_mem hkl)]) hlt
/-- The first one of a level. -/
theorem bsL_level (E F : List Int) (N M : List (List Int)) (a : Nat) : bsL E F (stW N M a).2 (stW N M a).2.length = (candL E F (stW N M a).2).headD [] := by
  rw [bsL_head (a := 2 * a) (stW_asc a) (fun v hv => (stW_ok N M a v hv).len) _ (Nat.le_refl _), List.take_length]
theorem addW_seen {N M : List (List Int)} {S : List (Nat × Nat)} {so : List (Nat × Nat) × List Way} {w : Way} (h : so.1 = S ++ so.2.map Prod.fst) : ∀ m, (addW N M so w m).1 = S ++ (addW N M so w m).2.map Prod.fst
  | 0 => h
  | m + 1 => by
    unfold addW
    split
    · exact addW_seen h m
    · show (addW N M so w m).1 ++ _ = S ++ ((addW N M so w m).2 ++ [farW N M w m]).map Prod.fst
      rw [addW_seen h m, List.map_append, List.append_assoc]; rfl
theorem lvW_seen {N M : List (List Int)} {S : List (Nat × Nat)} {lv : List Way} : ∀ k, (lvW N M S lv k).1 = S ++ (lvW N M S lv k).2.map Prod.fst
  | 0 => by simp [lvW]
  | k + 1 => addW_seen (lvW_seen k) 12
end Go.Kt
namespace Go.Kt
set_option linter.unusedVariables false
def BdP (S : List (Nat × Nat)) : Prop := ∀ p, p ∈ S → p.1 < 1024 ∧ p.2 < 1024
theorem length_flat (n k : Nat) (f : Nat → Nat → List Int) : ((List.range n).flatMap fun a => (List.range k).map fun b => f a b).length = n * k := by
  induction n with
  | zero => simp
  | succ n ih => rw [List.range_succ, List.flatMap_append, List.length_append, ih]; simp [Nat.add_mul]
theorem nodup_map {α β : Type} {f : α → β} (hf : ∀ a b, f a = f b → a = b) : ∀ {l : List α}, l.Nodup → (l.map f).Nodup
  | [], _ => by simp
  | x :: l, h => by
    have h' := List.nodup_cons.1 h
    rw [List.map_cons, List.nodup_cons]
    refine ⟨fun hm => ?_, nodup_map hf h'.2⟩
    obtain ⟨y, hy, e⟩ := List.mem_map.1 hm
    rw [hf _ _ e] at hy
    exact h'.1 hy
theorem bdP_len {S : List (Nat × Nat)} (hn : S.Nodup) (h : BdP S) : S.length ≤ 1048576 := by
  have h1 : (S.map rowP).Nodup := nodup_map (fun _ _ => rowP_inj) hn
  have h2 := nodup_len (L := (List.range 1024).flatMap fun a => (List.range 1024).map fun b => rowP (a, b)) h1 fun x hx => by
    obtain ⟨p, hp, rfl⟩ := List.mem_map.1 hx
    have := h p hp
    rw [List.mem_flatMap]
    exact ⟨p.1, List.mem_range.2 this.1, List.mem_map.2 ⟨p.2, List.mem_range.2 this.2, rfl⟩⟩
  rw [length_flat, List.length_map] at h2
  exact h2
theorem addW_bd {E F : List Int} {N M : List (List Int)} (hN : Auto E N) (hM : Auto F M) {so : List (Nat × Nat) × List Way} {w : Way} (h : BdP so.1) : ∀ m, m ≤ 12 → BdP (addW N M so w m).1
  | 0, _ => h
  | m + 1, hm => by
    have ih := addW_bd hN hM h (w := w) m (by omega)
    unfold addW
    split
    · exact ih
    · intro p hp
      rcases List.mem_append.1 hp with hp | hp
      · exact ih p hp
      · simp at hp; subst hp
        have h1 := stp_lt hN w.1.1 (show m < 12 by omega)
        have h2 := stp_lt hM w.1.2 (show m < 12 by omega)
        have := two_10 hN
        have := two_10 hM
        exact ⟨by show stp N w.1.1 m < 1024; omega, by show stp M w.1.2 m < 1024; omega⟩
theorem addW_le {N M : List (List Int)} {so : List (Nat × Nat) × List Way} {w : Way} (h : so.2.length ≤ so.1.length) : ∀ m, (addW N M so w m).2.length ≤ (addW N M so w m).1.length
  | 0 => h
  | m + 1 => by
    have ih := addW_le (N := N) (M := M) (w := w) h m
    unfold addW
    split
    · exact ih
    · simp only [List.length_append, List.length_cons, List.length_nil]; omega
theorem addW_in {N M : List (List Int)} {so : List (Nat × Nat) × List Way} {w : Way} (h : ∀ v, v ∈ so.2 → v.1 ∈ so.1) : ∀ m v, v ∈ (addW N M so w m).2 → v.1 ∈ (addW N M so w m).1
  | 0, v, hv => h v hv
  | m + 1, v, hv => by
    have ih := addW_in (N := N) (M := M) (w := w) h m
    unfold addW at hv ⊢
    split at hv
    · rename_i hc; rw [if_pos hc]; exact ih v hv
    · rename_i hc; rw [if_neg hc]
      rcases List.mem_append.1 hv with hv | hv
      · exact List.mem_append.2 (.inl (ih v hv))
      · simp at hv; subst hv
        exact List.mem_append.2 (.inr (by simp [farW]))
theorem lvW_bd {E F : List Int} {N M : List (List Int)} (hN : Auto E N) (hM : Auto F M) {S : List (Nat × Nat)} {lv : List Way} (h : BdP S) : ∀ k, BdP (lvW N M S lv k).1 ∧ (lvW N M S lv k).2.length ≤ (lvW N M S lv k).1.length ∧ ∀ v, v ∈ (lvW N M S lv k).2 → v.1 ∈ (lvW N M S lv k).1
  | 0 => ⟨h, Nat.zero_le _, fun v hv => by cases hv⟩
  | k + 1 => by
    obtain ⟨h1, h2, h3⟩ := lvW_bd hN hM h (lv := lv) k
    exact ⟨addW_bd hN hM h1 12 (Nat.le_refl _), addW_le h2 12, addW_in h3 12⟩
theorem stW_bd {E F : List Int} {N M : List (List Int)} (hN : Auto E N) (hM : Auto F M) : ∀ a, BdP (stW N M a).1 ∧ (stW N M a).2.length ≤ (stW N M a).1.length ∧ ∀ v, v ∈ (stW N M a).2 → v.1 ∈ (stW N M a).1
  | 0 => ⟨fun p hp => by simp [stW] at hp; subst hp; exact ⟨by decide, by decide⟩, Nat.le_refl _, fun v hv => by simp [stW] at hv ⊢; rw [hv]⟩
  | a + 1 => lvW_bd hN hM (stW_bd hN hM a).1 _
theorem candW_none {E F : List Int} {w : Way} (h : ∀ a, a < 4 → (apN E F w.1).testBit a = false) : candW E F w = [] := by
  unfold candW
  rw [List.map_eq_nil_iff, List.filter_eq_nil_iff]
  intro a ha
  rw [h a (List.mem_range.1 ha)]; simp
theorem candW_first {E F : List Int} {w : Way} {x : Nat} (hx : x < 4) (h : ∀ a, a < x → (apN E F w.1).testBit a = false) (hb : (apN E F w.1).testBit x = true) : ∃ r, candW E F w = (w.2 ++ [(x : Int)]) :: r := by
  have key : ∀ n, x < n → ∃ r, ((List.range n).filter fun a => (apN E F w.1).testBit a) = x :: r := by
    intro n
    induction n with
    | zero => intro h; omega
    | succ n ih =>
      intro hn
      rw [List.range_succ, List.filter_append]
      by_cases e : x = n
      · subst e
        have : (List.range x).filter (fun a => (apN E F w.1).testBit a) = [] := by
          rw [List.filter_eq_nil_iff]
          intro a ha
          rw [h a (List.mem_range.1 ha)]; simp
        rw [this]
        exact ⟨[], by simp [hb]⟩
      · obtain ⟨r, hr⟩ := ih (by omega)
        rw [hr]
        exact ⟨_, rfl⟩
  obtain ⟨r, hr⟩ := key 4 hx
  unfold candW
  rw [hr]
  exact ⟨_, rfl⟩
theorem candL_none {E F : List Int} {lv : List Way} (h : ∀ j, j < lv.length → candW E F (atW lv j) = []) : candL E F lv = [] := by
  unfold candL
  rw [List.flatMap_eq_nil_iff]
  intro w hw
  obtain ⟨j, hj, rfl⟩ := List.mem_iff_getElem.1 hw
  rw [← atW_getElem _ _ hj]
  exact h j hj
theorem candL_first {E F : List Int} {t : List Int} : ∀ {lv : List Way} {k : Nat}, k < lv.length → (∀ j, j < k → candW E F (atW lv j) = []) → (∃ r, candW E F (atW lv k) = t :: r) → ∃ r, candL E F lv = t :: r
  | [], k, hk, _, _ => by simp at hk
  | w :: lv, 0, _, _, ⟨r, hr⟩ => by
    have : atW (w :: lv) 0 = w := rfl
    rw [this] at hr
    unfold candL
    rw [List.flatMap_cons, hr]
    exact ⟨_, rfl⟩
  | w :: lv, k + 1, hk, h, hr => by
    have e : ∀ j, atW (w :: lv) (j + 1) = atW lv j := fun j => by simp [atW]
    obtain ⟨r, h1⟩ := candL_first (lv := lv) (k := k) (by simpa using hk) (fun j hj => by rw [← e]; exact h (j + 1) (by omega)) (by rw [← e]; exact hr)
    have h0 : candW E F w = [] := h 0 (by omega)
    unfold candL at h1 ⊢
    rw [List.flatMap_cons, h0, h1]
    exact ⟨r, rfl⟩
theorem dfF_found {E F : List Int} {N M : List (List Int)} {a : Nat} {t : List Int} (ha : a ≤ 20) (h : ∃ r, candL E F (stW N M a).2 = t :: r) : dfF E F N M (21 - a) a = some t := by
  obtain ⟨r, hr⟩ := h
  rw [show 21 - a = (20 - a) + 1 by omega]
  exact dfF_some hr
theorem dfF_next {E F : List Int} {N M : List (List Int)} {a : Nat} (ha : a ≤ 20) (h : candL E F (stW N M a).2 = []) : dfF E F N M (21 - a) a = dfF E F N M (21 - (a + 1)) (a + 1) := by
  rw [show 21 - a = (20 - a) + 1 by omega, show 21 - (a + 1) = 20 - a by omega]
  exact dfF_none h
end Go.Kt
