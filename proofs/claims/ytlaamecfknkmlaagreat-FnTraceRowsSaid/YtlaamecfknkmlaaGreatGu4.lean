/- Merged texts: contracts and plain lemmas (Ka). -/
import Derived.Test.YtlaamecfknkmlaaGreatGu2
import Derived.Test.YtlaamecfknkmlaaGreatGu3
import Derived.Deep.RegionLaw
/- Contracts: validity of expressions, and the halves of an expression. -/
namespace Go.Proofs.YtlaamecfknkmlaaGreat
set_option linter.unusedVariables false
open Go.RowKit Go.Kt

theorem tkK_cases (x : Int) : (x = 19 ∧ tkK x = 2) ∨ (x = 20 ∧ tkK x = 2) ∨ (x = 21 ∧ tkK x = 1) ∨ ((x ≠ 19 ∧ x ≠ 20 ∧ x ≠ 21) ∧ tkK x = 0) := by
  unfold tkK
  by_cases h1 : x = 19
  · exact .inl ⟨h1, if_pos (.inl h1)⟩
  · by_cases h2 : x = 20
    · exact .inr (.inl ⟨h2, if_pos (.inr h2)⟩)
    · by_cases h3 : x = 21
      · exact .inr (.inr (.inl ⟨h3, by rw [if_neg (by omega), if_pos h3]⟩))
      · exact .inr (.inr (.inr ⟨⟨h1, h2, h3⟩, by rw [if_neg (by omega), if_neg h3]⟩))
theorem l2Takes_c (x : Int) (w : World) : Calls Tryz.prog 140 #[.int .i64 x] w fun e w' => e = .returned (.int .i64 (tkK x)) ∧ w = w' := by
  rcases tkK_cases x with ⟨rfl, h⟩ | ⟨rfl, h⟩ | ⟨rfl, h⟩ | ⟨⟨h1, h2, h3⟩, h⟩
  · have H := Lib.hid h
    clear h
    go_enter Tryz.func140, Tryz.ntmps140
    go_wp2
    go_ret
    exact ⟨by rw [H.out]; rfl, rfl⟩
  · have H := Lib.hid h
    clear h
    go_enter Tryz.func140, Tryz.ntmps140
    go_wp2
    go_ret
    exact ⟨by rw [H.out]; rfl, rfl⟩
  · have H := Lib.hid h
    clear h
    go_enter Tryz.func140, Tryz.ntmps140
    go_wp2
    go_ret
    exact ⟨by rw [H.out]; rfl, rfl⟩
  · have H := Lib.hid h
    have e1 : (x == 19) = false := by simp [h1]
    have e2 : (x == 20) = false := by simp [h2]
    have e3 : (x == 21) = false := by simp [h3]
    clear h h1 h2 h3
    go_enter Tryz.func140, Tryz.ntmps140
    go_wp2
    go_ret
    exact ⟨by rw [H.out]; rfl, rfl⟩
theorem takes_c (x : Int) (w : World) : Calls Tryz.prog 126 #[.int .i64 x] w fun e w' => e = .returned (.int .i64 (tkK x)) ∧ w = w' := by
  rcases tkK_cases x with ⟨rfl, h⟩ | ⟨rfl, h⟩ | ⟨rfl, h⟩ | ⟨⟨h1, h2, h3⟩, h⟩
  · have H := Lib.hid h
    clear h
    go_enter Tryz.func126, Tryz.ntmps126
    go_wp2
    go_ret
    exact ⟨by rw [H.out]; rfl, rfl⟩
  · have H := Lib.hid h
    clear h
    go_enter Tryz.func126, Tryz.ntmps126
    go_wp2
    go_ret
    exact ⟨by rw [H.out]; rfl, rfl⟩
  · have H := Lib.hid h
    clear h
    go_enter Tryz.func126, Tryz.ntmps126
    go_wp2
    go_ret
    exact ⟨by rw [H.out]; rfl, rfl⟩
  · have H := Lib.hid h
    have e1 : (x == 19) = false := by simp [h1]
    have e2 : (x == 20) = false := by simp [h2]
    have e3 : (x == 21) = false := by simp [h3]
    clear h h1 h2 h3
    go_enter Tryz.func126, Tryz.ntmps126
    go_wp2
    go_ret
    exact ⟨by rw [H.out]; rfl, rfl⟩

set_option maxRecDepth 100000 in
theorem sKatValid_c (a : Option Addr) (cap : Nat) (l : List Int) (w : World) (hl : IntsAt w a l) (hlen : l.length ≤ 4194304) :
    Calls Tryz.prog 83 #[.slice a l.length cap] w fun e w' => e = .returned (.bool (kvB l)) ∧ w = w' := by
  obtain ⟨b, off, h1, h2⟩ := hl
  have H1 := Lib.hid h1
  have H2 := Lib.hid h2
  clear h1 h2
  go_enter Tryz.func83, Tryz.ntmps83
  go_wp2
  go_loop [3, 4] (fun mv i => Hid (∃ k m : Nat, k ≤ l.length ∧ i = .int .i64 k ∧ mv = .int .i64 m ∧ m ≤ k ∧ mnyK l k = some m)) (fun _ i => l.length - (intOf i).toNat)
  case atStart => exact Lib.hid ⟨0, 0, Nat.zero_le _, rfl, rfl, Nat.le_refl _, rfl⟩
  case round =>
    obtain ⟨k, m, hk, rfl, rfl, hmk, hm⟩ := hrel.out
    clear hrel
    by_cases hlt : k < l.length
    · obtain ⟨rfl, hb⟩ := H1.out (by omega)
      have hc := H2.out k hlt
      have hbad : Hid (BadK (nth l k) m → kvB l = false) := fun h => kvB_none (k := k + 1) (by omega) (mnyK_bad hm h)
      have hgood : Hid (¬ BadK (nth l k) m → mnyK l (k + 1) = some (m - (tkK (nth l k)).toNat + 1)) := fun h => mnyK_good hm h
      have hr := tkK_range (nth l k)
      have hcall : ∀ w0 : World, Calls Tryz.prog 140 #[.int .i64 (nth l k)] w0 fun e w' => e = .returned (.int .i64 (tkK (nth l k))) ∧ w0 = w' := fun w0 => l2Takes_c _ w0
      have HC := Lib.hid hcall
      have hbd : BadK (nth l k) m ↔ (nth l k < 0 ∨ 21 < nth l k ∨ (m : Int) < tkK (nth l k)) := Iff.rfl
      have HBD := Lib.hid hbd
      clear hm hcall hbd
      generalize hB : BadK (nth l k) m = Bad at *
      generalize tkK (nth l k) = T at *
      generalize nth l k = x at *
      by_cases hx : 0 ≤ x ∧ x ≤ 21
      · have hin : inB x 0 21 = true := by simp [inB]; omega
        by_cases hT : (m : Int) < T
        · have HV := Lib.hid (hbad.out (HBD.out.2 (.inr (.inr hT))))
          clear hbad hgood
          go_wp2_with (first | (go_at_call 61; refine (l1In_c _ _ _ _).mono ?_; rintro e w' ⟨rfl, rfl⟩) | (go_at_call 140; refine (HC.out _).mono ?_; rintro e w' ⟨rfl, rfl⟩) | fail)
          go_ret
          exact ⟨by rw [HV.out]; rfl, rfl⟩
        · have hg := Lib.hid (hgood.out fun h => by rcases HBD.out.1 h with h | h | h <;> omega)
          clear hbad hgood
          go_wp2_with (first | (go_at_call 61; refine (l1In_c _ _ _ _).mono ?_; rintro e w' ⟨rfl, rfl⟩) | (go_at_call 140; refine (HC.out _).mono ?_; rintro e w' ⟨rfl, rfl⟩) | fail)
          go_round
          case rel => exact Lib.hid ⟨k + 1, m - T.toNat + 1, by omega, by go_num, by congr 1; omega, by omega, hg.out⟩
          case measure => simp [intOf]; omega
      · have hin : inB x 0 21 = false := by simp [inB]; omega
        have HV := Lib.hid (hbad.out (HBD.out.2 (by omega)))
        clear hbad hgood
        go_wp2_with (first | (go_at_call 61; refine (l1In_c _ _ _ _).mono ?_; rintro e w' ⟨rfl, rfl⟩) | (go_at_call 140; refine (HC.out _).mono ?_; rintro e w' ⟨rfl, rfl⟩) | fail)
        go_ret
        exact ⟨by rw [HV.out]; rfl, rfl⟩
    · obtain rfl : k = l.length := by omega
      by_cases hn : 1 ≤ l.length ∧ l.length ≤ 40
      · have hv := Lib.hid (kvB_end hn hm)
        have hin : inB (l.length : Int) 1 40 = true := by simp [inB]; omega
        have hq : ((m : Int) == 1) = (m == 1) := by rw [Bool.eq_iff_iff]; simp; omega
        clear hm hn
        go_wp2_with (go_at_call 61; refine (l1In_c _ _ _ _).mono ?_; rintro e w' ⟨rfl, rfl⟩)
        go_ret
        exact ⟨by rw [hv.out, ← hq]; rfl, rfl⟩
      · have hv := Lib.hid (kvB_out hn)
        have hin : inB (l.length : Int) 1 40 = false := by simp [inB]; omega
        clear hm hn
        go_wp2_with (go_at_call 61; refine (l1In_c _ _ _ _).mono ?_; rintro e w' ⟨rfl, rfl⟩)
        go_ret
        exact ⟨by rw [hv.out]; rfl, rfl⟩
set_option maxRecDepth 100000 in
theorem iKatValid_c (a : Option Addr) (cap : Nat) (l : List Int) (w : World) (hl : IntsAt w a l) (hlen : l.length ≤ 4194304) :
    Calls Tryz.prog 67 #[.slice a l.length cap] w fun e w' => e = .returned (.bool (kvB l)) ∧ w = w' := by
  by_cases hn : 1 ≤ l.length ∧ l.length ≤ 40
  · have hn1 : 1 ≤ l.length := hn.1
    have hn2 : l.length ≤ 40 := hn.2
    have HN := Lib.hid hn
    obtain ⟨b, off, h1, h2⟩ := hl
    obtain ⟨rfl, hb⟩ := h1 (by omega)
    have H2 := Lib.hid h2
    clear h1 h2 hn
    go_enter Tryz.func67, Tryz.ntmps67
    go_wp2
    go_loop [3, 16] (fun mv i => Hid (∃ k m : Nat, k ≤ l.length ∧ i = .int .i64 k ∧ mv = .int .i64 m ∧ m ≤ k ∧ mnyK l k = some m)) (fun _ i => l.length - (intOf i).toNat)
    case atStart => exact Lib.hid ⟨0, 0, Nat.zero_le _, rfl, rfl, Nat.le_refl _, rfl⟩
    case round =>
      obtain ⟨k, m, hk, rfl, rfl, hmk, hm⟩ := hrel.out
      clear hrel
      by_cases hlt : k < l.length
      · have hc := H2.out k hlt
        have hbad : Hid (BadK (nth l k) m → kvB l = false) := fun h => kvB_none (k := k + 1) (by omega) (mnyK_bad hm h)
        have hgood : Hid (¬ BadK (nth l k) m → mnyK l (k + 1) = some (m - (tkK (nth l k)).toNat + 1)) := fun h => mnyK_good hm h
        have hr := tkK_range (nth l k)
        have hcall : ∀ w0 : World, Calls Tryz.prog 126 #[.int .i64 (nth l k)] w0 fun e w' => e = .returned (.int .i64 (tkK (nth l k))) ∧ w0 = w' := fun w0 => takes_c _ w0
        have HC := Lib.hid hcall
        have hbd : BadK (nth l k) m ↔ (nth l k < 0 ∨ 21 < nth l k ∨ (m : Int) < tkK (nth l k)) := Iff.rfl
        have HBD := Lib.hid hbd
        clear hm hcall hbd
        generalize hB : BadK (nth l k) m = Bad at *
        generalize tkK (nth l k) = T at *
        generalize nth l k = x at *
        by_cases hx : x < 0
        · have HV := Lib.hid (hbad.out (HBD.out.2 (.inl hx)))
          clear hbad hgood
          go_wp2_with (first | (go_at_call 126; refine (HC.out _).mono ?_; rintro e w' ⟨rfl, rfl⟩) | fail)
          go_ret
          exact ⟨by rw [HV.out]; rfl, rfl⟩
        · by_cases hx2 : 21 < x
          · have HV := Lib.hid (hbad.out (HBD.out.2 (.inr (.inl hx2))))
            clear hbad hgood
            go_wp2_with (first | (go_at_call 126; refine (HC.out _).mono ?_; rintro e w' ⟨rfl, rfl⟩) | fail)
            go_ret
            exact ⟨by rw [HV.out]; rfl, rfl⟩
          · by_cases hT : (m : Int) < T
            · have HV := Lib.hid (hbad.out (HBD.out.2 (.inr (.inr hT))))
              clear hbad hgood
              go_wp2_with (first | (go_at_call 126; refine (HC.out _).mono ?_; rintro e w' ⟨rfl, rfl⟩) | fail)
              go_ret
              exact ⟨by rw [HV.out]; rfl, rfl⟩
            · have hg := Lib.hid (hgood.out fun h => by rcases HBD.out.1 h with h | h | h <;> omega)
              clear hbad hgood
              go_wp2_with (first | (go_at_call 126; refine (HC.out _).mono ?_; rintro e w' ⟨rfl, rfl⟩) | fail)
              go_round
              case rel => exact Lib.hid ⟨k + 1, m - T.toNat + 1, by omega, by go_num, by congr 1; omega, by omega, hg.out⟩
              case measure => simp [intOf]; omega
      · obtain rfl : k = l.length := by omega
        have hv := Lib.hid (kvB_end HN.out hm)
        have hq : ((m : Int) == 1) = (m == 1) := by rw [Bool.eq_iff_iff]; simp; omega
        clear hm
        go_wp2
        go_ret
        exact ⟨by rw [hv.out, ← hq]; rfl, rfl⟩
  · have hv := Lib.hid (kvB_out hn)
    by_cases h1 : 1 ≤ l.length
    all_goals
      clear hl
      go_enter Tryz.func67, Tryz.ntmps67
      go_wp2
      go_ret
      exact ⟨by rw [hv.out]; rfl, rfl⟩
theorem l2Span_c (a : Option Addr) (cap : Nat) (l : List Int) (t : Kt) (o last : Nat) (w : World) (hl : IntsAt w a l) (hg : t.Good) (hs : SegK l o t.words) (hn : o + t.words.length = last + 1) (hlt : last < l.length) (hlen : l.length ≤ 4194304) :
    Calls Tryz.prog 167 #[.slice a l.length cap, .int .i64 last] w fun e w' => e = .returned (.int .i64 o) ∧ w = w' := by
  obtain ⟨b, off, h1, h2⟩ := hl
  obtain ⟨rfl, hb⟩ := h1 (by omega)
  have H2 := Lib.hid h2
  have hpos := t.words_pos
  have HN := Lib.hid (needK_seg l t hg o hs 1)
  rw [hn] at HN
  clear h1 h2 hg hs
  go_enter Tryz.func167, Tryz.ntmps167
  go_wp2
  go_loop [5, 6] (fun nv av => Hid (∃ j : Nat, j ≤ t.words.length ∧ av = .int .i64 ((last + 1 - j : Nat) : Int) ∧ nv = .int .i64 (needK l (last + 1) 1 j))) (fun _ av => (intOf av).toNat)
  case atStart => exact Lib.hid ⟨0, Nat.zero_le _, by simp, rfl⟩
  case round =>
    obtain ⟨j, hj, rfl, rfl⟩ := hrel.out
    clear hrel
    by_cases hlt2 : j < t.words.length
    · have hge := HN.out.1 j hlt2
      have hle := (needK_le l (last + 1) 1 (by decide) j).2
      obtain ⟨p, hp⟩ : ∃ p, last + 1 - j = p + 1 := ⟨last - j, by omega⟩
      have hstep : Hid (needK l (last + 1) 1 (j + 1) = needK l (last + 1) 1 j - 1 + tkK (nth l p)) := by
        unfold Hid; simp only [needK]; rw [show last + 1 - 1 - j = p by omega]
      have hc := H2.out p (by omega)
      have hr := tkK_range (nth l p)
      have hcall : ∀ w0 : World, Calls Tryz.prog 140 #[.int .i64 (nth l p)] w0 fun e w' => e = .returned (.int .i64 (tkK (nth l p))) ∧ w0 = w' := fun w0 => l2Takes_c _ w0
      have HC := Lib.hid hcall
      have hpl : p < l.length := by omega
      rw [hp]
      clear hcall
      generalize needK l (last + 1) 1 j = N at *
      generalize tkK (nth l p) = T at *
      generalize nth l p = x at *
      go_wp2_with (first | (go_at_call 140; refine (HC.out _).mono ?_; rintro e w' ⟨rfl, rfl⟩) | fail)
      go_round
      case rel => exact Lib.hid ⟨j + 1, by omega, by congr 1; omega, by rw [hstep.out]⟩
      case measure => simp [intOf]
    · obtain rfl : j = t.words.length := by omega
      have h0 := HN.out.2
      have ho : ((last + 1 - t.words.length : Nat) : Int) = o := by omega
      rw [h0, ho]
      go_wp2
      go_ret
      exact ⟨rfl, rfl⟩
/-- Both halves of an expression that ends with a step that takes two. -/
theorem l2Halves_c (b : Nat) (off cap : Nat) (l : List Int) (t : Kt) (o : Nat) (w : World) (hl : IntsAt w (some ⟨b, off, none⟩) l) (hg : t.Good) (hs : SegK l o t.words) (hn : o + t.words.length + 1 = l.length) (hcap : l.length ≤ cap) (hlen : l.length ≤ 4194304) :
    Calls Tryz.prog 143 #[.slice (some ⟨b, off, none⟩) l.length cap] w fun e w' => e = .returned (.tuple #[.slice (some ⟨b, off, none⟩) o cap, .slice (some ⟨b, off + o, none⟩) t.words.length (cap - o)]) ∧ w' = w.drew := by
  have hpos := t.words_pos
  have hw1 : IntKind.i64.wrap ((l.length : Int) - 1) = ((l.length - 1 : Nat) : Int) := by rw [IntWalk.i64_in _ (by omega)]; omega
  have hw2 : IntKind.i64.wrap (((l.length - 1 : Nat) : Int) - 1) = ((l.length - 2 : Nat) : Int) := by rw [IntWalk.i64_in _ (by omega)]; omega
  have hc := l2Span_c (some ⟨b, off, none⟩) cap l t o (l.length - 2) w hl hg hs (by omega) (by omega) hlen
  have HC := Lib.hid hc
  clear hl hg hs hc
  obtain ⟨p, hp⟩ : ∃ p, l.length - 1 = p := ⟨_, rfl⟩
  have hop : o ≤ p := by omega
  have hpc : p ≤ cap := by omega
  have hoc : o ≤ cap := by omega
  have hco : ¬ cap - o = 0 := by omega
  have hpo : p - o = t.words.length := by omega
  rw [hp] at hw1 hw2
  go_enter Tryz.func143, Tryz.ntmps143
  go_wp2_with (first | (go_at_call 167; refine HC.out.mono ?_; rintro e w' ⟨rfl, rfl⟩) | fail)
  go_region
  go_wp2
  go_ret2
  exact ⟨rfl, rfl⟩
end Go.Proofs.YtlaamecfknkmlaaGreat
