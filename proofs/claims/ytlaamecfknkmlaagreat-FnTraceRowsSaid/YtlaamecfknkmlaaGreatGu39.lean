/- Merged texts: contracts and plain lemmas (U). -/
import Derived.Test.YtlaamecfknkmlaaGreatGu13
import Derived.Test.YtlaamecfknkmlaaGreatGu8
/- Contracts: the laws' own helpers over sets; and the plain laws of rows as the walks want them. -/
namespace Go.Proofs.YtlaamecfknkmlaaGreat
set_option linter.unusedVariables false
open Go.RowKit Go.Kt

theorem alive_c (w : World) : Calls Tryz.prog 13 #[] w fun e w' => e = .returned (.bool true) ∧ w = w' := by
  have h1 : notF 0 = 15 := by decide
  have h2 : notF 15 = 0 := by decide
  go_enter Tryz.func13, Tryz.ntmps13
  go_wp2_with fail
  refine (iTestNot_c 0 _).mono ?_
  rw [h1]
  rintro e w1 ⟨rfl, rfl⟩
  go_wp2_with fail
  refine (iTestNot_c 15 _).mono ?_
  rw [h2]
  rintro e w1 ⟨rfl, rfl⟩
  go_wp2
  go_ret
  exact ⟨rfl, rfl⟩
theorem both_c (a b : Nat) (w : World) (ha : a < 4294967296) (hb : b < 4294967296) :
    Calls Tryz.prog 25 #[.int .i64 a, .int .i64 b] w fun e w' => e = .returned (.int .i64 (andN a b : Nat)) ∧ w = w' := by
  have hfin := Lib.hid (andTo_end a b 40 (.inl (by omega)))
  go_enter Tryz.func25, Tryz.ntmps25
  go_wp2
  go_loop [5, 6] (fun o i => Hid (∃ k : Nat, k ≤ 40 ∧ i = .int .i64 k ∧ o = .int .i64 (andTo a b k))) (fun _ i => 40 - (intOf i).toNat)
  case atStart => exact Lib.hid ⟨0, by omega, rfl, by rw [andTo_zero]; rfl⟩
  case round =>
    obtain ⟨k, hk, rfl, rfl⟩ := hrel.out
    clear hrel
    have hle := andTo_le a b k
    have hs := Lib.hid (andTo_succ a b k)
    by_cases h : k < 40
    · have hA0 := tmod_bit a k
      have hB0 := tmod_bit b k
      have hp := pow_le_big k 40 (by omega)
      have hq := pow_pos' k
      cases hA : a.testBit k
      all_goals cases hB : b.testBit k
      all_goals
        rw [hA] at hA0
        rw [hB] at hB0
        simp only [Bool.toNat_true, Bool.toNat_false] at hA0 hB0
        go_wp2
        go_round
        case rel => exact Lib.hid ⟨k + 1, by omega, by go_num, by rw [hs.out, hA, hB]; simp⟩
        case measure => simp [intOf]; omega
    · obtain rfl : k = 40 := by omega
      go_wp2
      go_ret
      exact ⟨by rw [hfin.out]; rfl, rfl⟩
theorem under_c (a b : Option Addr) (ca cb : Nat) (la lb : List Int) (w : World) (ha : IntsAt w a la) (hb : IntsAt w b lb) (hla : la.length ≤ 32) (hl : la.length = lb.length) (sa : Sets la) (sb : Sets lb) (hs : ∀ i, i < la.length → Sub (natAt la i) (natAt lb i)) :
    Calls Tryz.prog 35 #[.slice a la.length ca, .slice b lb.length cb] w fun e w' => e = .returned (.bool true) ∧ Ext w w' := by
  obtain ⟨ba, oa, h1, h2⟩ := ha
  obtain ⟨bb, ob, h3, h4⟩ := hb
  have H1 := Lib.hid h1
  have H2 := Lib.hid h2
  have H3 := Lib.hid h3
  have H4 := Lib.hid h4
  have HL := Lib.hid hl
  have SA := Lib.hid sa
  have SB := Lib.hid sb
  have HS := Lib.hid hs
  have hlb : lb.length ≤ 32 := by omega
  have hlq : ((la.length : Int) == (lb.length : Int)) = true := by rw [hl]; simp
  clear h1 h2 h3 h4 hl sa sb hs
  go_enter Tryz.func35, Tryz.ntmps35
  go_wp2
  go_loopw [5] (fun i wr => Hid (∃ k : Nat, k ≤ la.length ∧ i = .int .i64 k ∧ ∃ m, wr = w.drewN m)) (fun i _ => la.length - (intOf i).toNat)
  case atStart => exact Lib.hid ⟨0, Nat.zero_le _, rfl, 0, rfl⟩
  case round =>
    obtain ⟨k, hk, rfl, m, rfl⟩ := hrel.out
    clear hrel
    by_cases hlt : k < la.length
    · have hltb : k < lb.length := by rw [← HL.out]; exact hlt
      obtain ⟨rfl, z1⟩ := H1.out (by omega)
      obtain ⟨rfl, z3⟩ := H3.out (by omega)
      have ka := H2.out k hlt
      have kb := H4.out k hltb
      obtain ⟨sa0, sa1⟩ := SA.out k hlt
      obtain ⟨sb0, sb1⟩ := SB.out k hltb
      have hand := andN_of_sub (HS.out k hlt)
      unfold natAt at hand
      obtain ⟨x, hx⟩ := Int.eq_ofNat_of_zero_le sa0
      obtain ⟨y, hy⟩ := Int.eq_ofNat_of_zero_le sb0
      rw [hx, hy] at hand
      simp only [Int.toNat_natCast] at hand
      rw [hx] at ka sa1
      rw [hy] at kb sb1
      clear hx hy sa0 sb0
      have hboth : ∀ w0 : World, Calls Tryz.prog 25 #[.int .i64 x, .int .i64 y] w0 fun e w' => e = .returned (.int .i64 x) ∧ w0 = w' := fun w0 => (both_c x y w0 (by omega) (by omega)).mono fun e w' h => by rw [hand] at h; exact h
      clear hand
      go_wp2
      go_quiet ((go_at_call 25; exact quiet_same_add (hboth _)))
      go_wp2
      go_roundw
      case rel => exact Lib.hid ⟨k + 1, by omega, by go_num, _, rfl⟩
      case measure => simp [intOf]; omega
    · obtain rfl : k = la.length := by omega
      go_wp2
      go_ret
      exact ⟨rfl, by (repeat (first | exact Ext.refl _ | assumption | refine Ext.alloc ?_ _ | refine Ext.drewN ?_ _ | refine Ext.drew ?_))⟩
/-! plain laws of rows -/
theorem rvB_rel {s : Nat} {l : List Int} (h1 : 1 ≤ s) (h5 : s ≤ 5) (h : Rel s l) : rvB s l = true := by
  simp only [rvB, decide_eq_true_eq, Int.toNat_natCast]
  refine ⟨by omega, by omega, by rw [h.len], fun x hx => ?_⟩
  obtain ⟨i, hi, rfl⟩ := List.getElem_of_mem hx
  have h0 := (h.sets i hi).1
  have h2 := h.lt' i hi
  unfold natAt at h2
  rw [nth_getElem l i hi] at h0 h2
  refine ⟨h0, ?_⟩
  have : (l[i].toNat : Int) < ((2 ^ s : Nat) : Int) := by exact_mod_cast h2
  rw [Int.toNat_of_nonneg h0] at this
  simpa using this
theorem rel_rvB {s : Nat} {l : List Int} (h : rvB s l = true) : 1 ≤ s ∧ s ≤ 5 ∧ Rel s l := by
  obtain ⟨hs, hlt, h1, h5⟩ := rvB_sets h
  have hl := rvB_len h
  have hls : l.length = s := by omega
  exact ⟨by omega, by omega, hls, by omega, hs, fun i hi => by have := hlt i (by omega); simpa using this⟩
theorem backF_laws {s : Nat} {a : List Int} (h : rvB s a = true) : rvB s (backF s a) = true ∧ backF s (backF s a) = a ∧ 1 ≤ (backF s a).length := by
  obtain ⟨h1, h5, hr⟩ := rel_rvB h
  have e : backF s a = backTo a a.length := by simp [backF, h]
  have h2 := rvB_rel h1 h5 hr.backTo
  rw [e]
  refine ⟨h2, ?_, by rw [hr.backTo.len]; exact h1⟩
  simp only [backF, h2, if_true]
  exact back_back hr
theorem plusF_laws {s : Nat} {a b : List Int} (h : rvB s a = true) (k : rvB s b = true) :
    rvB s (plusF s a b) = true ∧ plusF s b a = plusF s a b ∧ 1 ≤ (plusF s a b).length ∧ (plusF s a b).length = a.length ∧ (plusF s a b).length = b.length ∧
      (∀ i, i < a.length → Sub (natAt a i) (natAt (plusF s a b) i)) ∧ (∀ i, i < b.length → Sub (natAt b i) (natAt (plusF s a b) i)) := by
  obtain ⟨h1, h5, ha⟩ := rel_rvB h
  obtain ⟨-, -, hb⟩ := rel_rvB k
  have e : plusF s a b = plusTo a b a.length := by simp [plusF, h, k]
  have e2 : plusF s b a = plusTo b a b.length := by simp [plusF, h, k]
  have hp := ha.plusTo hb
  rw [e, e2]
  refine ⟨rvB_rel h1 h5 hp, plus_comm' ha hb, by rw [hp.len]; exact h1, by rw [hp.len, ha.len], by rw [hp.len, hb.len], fun i hi => ?_, fun i hi => ?_⟩
  · rw [natAt_plus a b _ i hi]
    intro t ht
    rw [testBit_orN, ht]; rfl
  · rw [natAt_plus a b _ i (by rw [ha.len, ← hb.len]; exact hi)]
    intro t ht
    rw [testBit_orN, ht, Bool.or_true]
theorem plusF_bad {s : Nat} {a b : List Int} (h : (rvB s a && rvB s b) = false) : plusF s a b = [] := by simp [plusF, h]
theorem thenF_bad {s : Nat} {a b : List Int} (h : (rvB s a && rvB s b) = false) : thenF s a b = [] := by simp [thenF, h]
theorem thenF_rv {s : Nat} {a b : List Int} (h : rvB s a = true) (k : rvB s b = true) : rvB s (thenF s a b) = true := by
  obtain ⟨h1, h5, ha⟩ := rel_rvB h
  obtain ⟨-, -, hb⟩ := rel_rvB k
  have e : thenF s a b = thenTo a b a.length := by simp [thenF, h, k]
  rw [e]
  exact rvB_rel h1 h5 (ha.thenTo hb)
theorem thenF_val {s : Nat} {a b : List Int} (h : rvB s a = true) (k : rvB s b = true) : thenF s a b = thenTo a b a.length := by unfold thenF; rw [h, k]; rfl
theorem backF_val {s : Nat} {a : List Int} (h : rvB s a = true) : backF s a = backTo a a.length := by unfold backF; rw [h]; rfl
theorem thenF_assoc {s : Nat} {a b c : List Int} (h : rvB s a = true) (k : rvB s b = true) (l : rvB s c = true) : thenF s (thenF s a b) c = thenF s a (thenF s b c) := by
  have h1 := thenF_rv h k
  have h2 := thenF_rv k l
  have e1 : thenF s a b = thenTo a b a.length := by simp [thenF, h, k]
  have e2 : thenF s b c = thenTo b c b.length := by simp [thenF, k, l]
  have e3 := thenF_val h1 l
  have e4 := thenF_val h h2
  rw [e3, e4, e1, e2]
  exact then_assoc (rel_rvB h).2.2 (rel_rvB k).2.2 (rel_rvB l).2.2
theorem thenF_back {s : Nat} {a b : List Int} (h : rvB s a = true) (k : rvB s b = true) : backF s (thenF s a b) = thenF s (backF s b) (backF s a) := by
  have h1 := thenF_rv h k
  have h2 := (backF_laws h).1
  have h3 := (backF_laws k).1
  have e1 : thenF s a b = thenTo a b a.length := by simp [thenF, h, k]
  have e2 := backF_val h1
  have e3 := thenF_val h3 h2
  have e4 : backF s a = backTo a a.length := by simp [backF, h]
  have e5 : backF s b = backTo b b.length := by simp [backF, k]
  rw [e2, e3, e1, e4, e5]
  exact back_then (rel_rvB h).2.2 (rel_rvB k).2.2
theorem starF_laws {s : Nat} {a : List Int} (h : rvB s a = true) :
    rvB s (starF s a) = true ∧ thenF s (starF s a) (starF s a) = starF s a ∧ starF s (starF s a) = starF s a ∧ 1 ≤ (starF s a).length ∧ (starF s a).length = a.length ∧
      (∀ i, i < a.length → Sub (natAt a i) (natAt (starF s a) i)) ∧ ∀ i, i < (starF s a).length → (natAt (starF s a) i).testBit i = true := by
  obtain ⟨h1, h5, ha⟩ := rel_rvB h
  have e : starF s a = starTo a a.length := by simp [starF, h]
  have hs := rvB_rel h1 h5 ha.starTo
  rw [e]
  refine ⟨hs, ?_, ?_, by rw [ha.starTo.len]; exact h1, by rw [ha.starTo.len, ha.len], fun i hi => star_above ha h5 i (by rw [← ha.len]; exact hi), fun i hi => star_self ha i (by rw [ha.starTo.len] at hi; exact hi)⟩
  · simp only [thenF, hs, Bool.and_self, if_true]
    exact star_then ha h5
  · simp only [starF, hs, if_true]
    exact star_star ha h5
theorem rvB_zeros {s : Nat} {l : List Int} (h : rvB s l = true) : rvB s (List.replicate l.length 0) = true := by
  obtain ⟨h1, h5, hr⟩ := rel_rvB h
  simp only [rvB, decide_eq_true_eq, Int.toNat_natCast, List.length_replicate]
  refine ⟨by omega, by omega, by rw [hr.len], fun x hx => ?_⟩
  rw [List.eq_of_mem_replicate hx]
  have := pow_pos' s
  exact ⟨by omega, by omega⟩
theorem rvB_more {s : Nat} {l : List Int} (x : Int) (h : rvB s l = true) : rvB s (l ++ [x]) = false := by
  obtain ⟨h1, h5, hr⟩ := rel_rvB h
  have := hr.len
  simp [rvB]
  omega
end Go.Proofs.YtlaamecfknkmlaaGreat
