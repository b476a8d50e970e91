/- Contracts: what is reached. -/
import Derived.Test.YtnhdachenckceaaCb
import Derived.Test.YtnhdachenckceaaBools
import Derived.Test.YtnhdachenckceaaGd
namespace Go.Proofs.Ytnhdachenckceaa
set_option linter.unusedVariables false
open Go.RowKit Go.Kt

theorem infoBool : (Try.prog.info? 4).map (fun i => (i.zero, i.size, i.bytes)) = some (some (.bool false), 1, 1) := by kernel_rfl
set_option maxRecDepth 100000 in
theorem eqBoolS_c (a a' : Option Addr) (cap cap' : Nat) (l : List Bool) (w : World) (hl : BoolsAt w a l) (hl' : BoolsAt w a' l) (hlen : l.length ≤ 4611686018427387904) :
    Calls Try.prog 32 #[.slice a l.length cap, .slice a' l.length cap'] w fun e w' => e = .returned (.bool true) ∧ Ext w w' := by
  obtain ⟨b, off, h1, h2⟩ := hl
  obtain ⟨b', off', h1', h2'⟩ := hl'
  have H1 := Lib.hid h1
  have H2 := Lib.hid h2
  have H1' := Lib.hid h1'
  have H2' := Lib.hid h2'
  clear h1 h2 h1' h2'
  have hne : (((l.length : Nat) : Int) != ((l.length : Nat) : Int)) = false := by simp
  go_enter Try.func32, Try.ntmps32
  go_wp2
  go_loopw [5] (fun i wr => Hid (∃ k : Nat, k ≤ l.length ∧ i = .int .i64 k ∧ ∃ m, wr = w.drewN m)) (fun i _ => l.length - (intOf i).toNat)
  case atStart => exact Lib.hid ⟨0, Nat.zero_le _, rfl, 0, rfl⟩
  case round =>
    obtain ⟨k, hk, rfl, m, rfl⟩ := hrel.out
    clear hrel
    by_cases hlt : k < l.length
    · obtain ⟨rfl, hb⟩ := H1.out (by omega)
      obtain ⟨rfl, hb'⟩ := H1'.out (by omega)
      have hc := H2.out k hlt
      have hc' := H2'.out k hlt
      have hq : (nthB l k != nthB l k) = false := by simp
      generalize nthB l k = x at *
      go_wp2
      go_quiet (fail)
      go_wp2
      go_roundw
      case rel => exact Lib.hid ⟨k + 1, by omega, by go_num, by first | exact ⟨_, rfl⟩ | exact drawn2 _ _ _⟩
      case measure => simp [intOf]; omega
    · obtain rfl : k = l.length := by omega
      go_wp2
      go_ret
      exact ⟨rfl, by (repeat (first | exact Ext.refl _ | assumption | refine Ext.alloc ?_ _ | refine Ext.drewN ?_ _ | refine Ext.drew ?_))⟩
set_option maxRecDepth 100000 in
theorem markBoolS_c (a : Option Addr) (n cap B : Nat) (l : List Bool) (k : Nat) (w : World) (ho : OwnB w B 4 (.slice a n cap) l) (hn : n = l.length) (hlen : n ≤ 4194304) (hk : k ≤ 4194304) :
    Calls Try.prog 33 #[.slice a n cap, .int .i64 k] w fun e w' => e = .returned (.int .i64 ((k + n : Nat) : Int)) ∧ OwnB w' B 4 (.slice a n cap) (marksB k n) ∧ w.grownBy w' (Value.slice a n cap).ownBlock := by
  have HN := Lib.hid hn
  clear hn
  go_enter Try.func33, Try.ntmps33
  go_wp2
  go_loopw [1, 5] (fun kk i wr => Hid (∃ j : Nat, j ≤ n ∧ i = .int .i64 j ∧ kk = .int .i64 ((k + j : Nat) : Int) ∧ OwnB wr B 4 (.slice a n cap) (markBTo l k j) ∧ w.grownBy wr (Value.slice a n cap).ownBlock)) (fun _ i _ => n - (intOf i).toNat)
  case atStart => exact Lib.hid ⟨0, Nat.zero_le _, rfl, by simp, by rw [markBTo_zero]; exact ho, (Ext.refl w).grown _⟩
  case round =>
    obtain ⟨j, hj, rfl, rfl, ho1, hg⟩ := hrel.out
    clear hrel ho
    by_cases hlt : j < n
    · have hml : (markBTo l k j).length = n := by rw [markBTo_length l k j (by have := HN.out; omega), HN.out]
      obtain ⟨g, cap', hv, hB, hgs, hcell, hfz⟩ := ho1.row (by rw [hml]; omega)
      obtain ⟨rfl, -, rfl⟩ : a = some ⟨g, 0, none⟩ ∧ n = (markBTo l k j).length ∧ cap = cap' := by simpa using hv
      have hc := hcell j (by rw [hml]; omega)
      have hf := hfz j
      have hset := (ho1.set hml.symm j ((k + j) % 3 == 0)).1
      rw [markBTo_set l k j (by have := HN.out; omega)] at hset
      have HS := Lib.hid hset
      have HG := Lib.hid (grown_setCell (p := ⟨g, j, none⟩) (u := .bool ((k + j) % 3 == 0)) hg rfl)
      clear hv hcell hfz ho1 hset hg hml
      obtain ⟨X, hX⟩ : ∃ X : Nat, X = k + j := ⟨_, rfl⟩
      rw [← hX] at HS HG ⊢
      have hq : (((X : Int) % 3) == (0 : Int)) = (X % 3 == 0) := by rw [Bool.eq_iff_iff]; simp; omega
      have hXb : X ≤ 8388608 := by omega
      have HX := Lib.hid hX
      clear hX
      generalize hY : (X % 3 == 0) = Y at *
      clear hY
      go_wp2
      go_roundw
      case rel => exact Lib.hid ⟨j + 1, by omega, by go_num, by have := HX.out; congr 1; omega, HS.out, HG.out⟩
      case measure => simp [intOf]; omega
    · obtain rfl : j = n := by omega
      rw [HN.out, markBTo_end, ← HN.out] at ho1
      go_wp2
      go_ret
      exact ⟨rfl, ho1, hg⟩
set_option maxRecDepth 100000 in
theorem heldBoolS_c (a : Option Addr) (n cap : Nat) (k : Nat) (w : World) (hi : BoolsAt w a (marksB k n)) (hlen : n ≤ 4194304) (hk : k ≤ 4194304) :
    Calls Try.prog 34 #[.slice a n cap, .int .i64 k] w fun e w' => e = .returned (.int .i64 ((k + n : Nat) : Int)) ∧ Ext w w' := by
  obtain ⟨b1, o1, p1, q1⟩ := hi
  rw [marksB_length] at p1 q1
  have P1 := Lib.hid p1
  have Q1 := Lib.hid q1
  clear p1 q1
  go_enter Try.func34, Try.ntmps34
  go_wp2
  go_loopw [1, 5] (fun kk i wr => Hid (∃ j : Nat, j ≤ n ∧ i = .int .i64 j ∧ kk = .int .i64 ((k + j : Nat) : Int) ∧ ∃ m, wr = w.drewN m)) (fun _ i _ => n - (intOf i).toNat)
  case atStart => exact Lib.hid ⟨0, Nat.zero_le _, rfl, by simp, 0, rfl⟩
  case round =>
    obtain ⟨j, hj, rfl, rfl, m, rfl⟩ := hrel.out
    clear hrel
    by_cases hlt : j < n
    · obtain ⟨rfl, hb⟩ := P1.out (by omega)
      have hc := Q1.out j hlt
      rw [marksB_get k n j hlt] at hc
      obtain ⟨X, hX⟩ : ∃ X : Nat, X = k + j := ⟨_, rfl⟩
      rw [← hX] at hc ⊢
      have hq : (((X : Int) % 3) == (0 : Int)) = (X % 3 == 0) := by rw [Bool.eq_iff_iff]; simp; omega
      have hXb : X ≤ 8388608 := by omega
      have HX := Lib.hid hX
      clear hX
      generalize hY : (X % 3 == 0) = Y at *
      clear hY
      have hne : (Y != Y) = false := by simp
      go_wp2
      go_roundw
      case rel => exact Lib.hid ⟨j + 1, by omega, by go_num, by have := HX.out; congr 1; omega, by first | exact ⟨_, rfl⟩ | exact drawn2 _ _ _⟩
      case measure => simp [intOf]; omega
    · obtain rfl : j = n := by omega
      go_wp2
      go_ret
      exact ⟨rfl, by (repeat (first | exact Ext.refl _ | assumption | refine Ext.alloc ?_ _ | refine Ext.drewN ?_ _ | refine Ext.drew ?_))⟩
end Go.Proofs.Ytnhdachenckceaa
