/- Contracts: the laws' helpers over slices of instructions. -/
import Derived.Test.YtnhdachenckceaaC
import Derived.Test.YtnhdachenckceaaFlat
import Derived.Deep.RegionLaw
namespace Go.Proofs.Ytnhdachenckceaa
set_option linter.unusedVariables false
open Go.RowKit Go.Kt

theorem infoIns : (Try.prog.info? 49).map (fun i => (i.zero, i.size, i.bytes)) = some (some (.agg #[.int .i64 0, .int .i64 0, .int .i64 0]), 3, 24) := by kernel_rfl
abbrev insV (k a t : Int) : Value := .agg #[.int .i64 k, .int .i64 a, .int .i64 t]
theorem toIns_c (k a t : Int) (w : World) : Calls Try.prog 54 #[insV k a t] w fun e w' => e = .returned (insV k a t) ∧ Ext w w' := by
  go_enter Try.func54, Try.ntmps54
  go_wp2
  refine bodyPost_ret (v := insV k a t) (by simp [results, Try.results54, go_sem]) rfl ⟨rfl, ?_⟩
  (repeat (first | exact Ext.refl _ | assumption | refine Ext.alloc ?_ _ | refine Ext.drewN ?_ _ | refine Ext.drew ?_ | refine Ext.setCell ?_ (by simp; try omega) _))
theorem eqIns_c (k a t : Int) (w : World) : Calls Try.prog 57 #[insV k a t, insV k a t] w fun e w' => e = .returned (.bool true) ∧ Ext w w' := by
  have h1 : (k != k) = false := by simp
  have h2 : (a != a) = false := by simp
  have h3 : (t != t) = false := by simp
  go_enter Try.func57, Try.ntmps57
  go_wp2
  go_ret
  exact ⟨rfl, by (repeat (first | exact Ext.refl _ | assumption | refine Ext.alloc ?_ _ | refine Ext.drewN ?_ _ | refine Ext.drew ?_))⟩
theorem szInsS_c (a : Option Addr) (cap n : Nat) (left : Int) (w : World) (hn : n ≤ 9223372036854775807) (h0 : 0 ≤ left) (h1 : left ≤ 4194304) :
    Calls Try.prog 19 #[.slice a n cap, .int .i64 left] w fun e w' => e = .returned (.int .i64 (if (n : Int) ≤ left then left - n else -1)) ∧ w = w' := by
  by_cases h : (n : Int) ≤ left
  · rw [if_pos h]
    go_enter Try.func19, Try.ntmps19
    go_wp2
    go_ret
    exact ⟨rfl, rfl⟩
  · rw [if_neg h]
    have hlt : left - (n : Int) < 0 := by omega
    go_enter Try.func19, Try.ntmps19
    go_wp2
    go_ret
    exact ⟨rfl, rfl⟩
theorem fillTo_zero' (L : List Int) (n : Nat) (h : L.length = n * 3) : fillTo L 0 = List.replicate (n * 3) 0 := by rw [fillTo_zero, h]
set_option maxRecDepth 100000 in
theorem toInsS_c (a : Option Addr) (n cap : Nat) (L : List Int) (w : World) (hl : FlatAt w a n L) (hlen : n ≤ 4194304) :
    Calls Try.prog 21 #[.slice a n cap] w (RetF 49 w n L) := by
  have HL := Lib.hid hl
  have HN := Lib.hid hl.len
  clear hl
  go_enter Try.func21, Try.ntmps21
  go_wp2_with (at_make; refine want_make_ins _ (by rfl) _ _ _ rfl w.heap.size 49 Try.underlying29 infoIns _ _ n rfl rfl (by omega) (Nat.le_refl _) ?_)
  intro w1 ho hg
  have hx1 := Ext.of_grown hg
  clear hg
  go_wp2
  go_loopw [4] (fun i wr => Hid (∃ k : Nat, k ≤ n ∧ i = .int .i64 k ∧ OwnF wr w.heap.size 49 (.slice (some ⟨w.heap.size, 0, none⟩) n n) n (fillTo L (k * 3)) ∧ Ext w wr)) (fun i _ => n - (intOf i).toNat)
  case atStart => exact Lib.hid ⟨0, Nat.zero_le _, rfl, by rw [Nat.zero_mul, fillTo_zero' L n HN.out]; exact ho, hx1⟩
  case round =>
    obtain ⟨k, hk, rfl, ho, hx⟩ := hrel.out
    clear hrel hx1
    by_cases hlt : k < n
    · obtain ⟨b, off, rfl, hb, hc⟩ := (HL.out.ext hx).cells (by omega)
      obtain ⟨c0, c1, c2⟩ := hc k hlt
      have HO := Lib.hid ho
      have HX := Lib.hid hx
      clear hc ho hx
      go_wp2_with fail
      refine (toIns_c _ _ _ _).mono ?_
      rintro e wk ⟨rfl, y⟩
      have ho := HO.out.ext (Ext.trans (by (repeat (first | exact Ext.refl _ | assumption | refine Ext.alloc ?_ _ | refine Ext.drewN ?_ _ | refine Ext.drew ?_))) y)
      have hxk := HX.out.trans (Ext.trans (by (repeat (first | exact Ext.refl _ | assumption | refine Ext.alloc ?_ _ | refine Ext.drewN ?_ _ | refine Ext.drew ?_))) y)
      obtain ⟨g, cap', hv, -, hgs, hcell, hfz⟩ := ho.row (by omega)
      obtain ⟨rfl, -⟩ : w.heap.size = g ∧ n = cap' := by simpa using hv
      have d0 := hcell (k * 3) (by omega)
      have d1 := hcell (k * 3 + 1) (by omega)
      have d2 := hcell (k * 3 + 2) (by omega)
      have f0 := hfz (k * 3)
      have f1 := hfz (k * 3 + 1)
      have f2 := hfz (k * 3 + 2)
      have hset := Lib.hid ((((ho.set (k * 3) (nth L (k * 3))).1).set (k * 3 + 1) (nth L (k * 3 + 1))).1.set (k * 3 + 2) (nth L (k * 3 + 2))).1
      have hfil : Hid ((((fillTo L (k * 3)).set (k * 3) (nth L (k * 3))).set (k * 3 + 1) (nth L (k * 3 + 1))).set (k * 3 + 2) (nth L (k * 3 + 2)) = fillTo L ((k + 1) * 3)) := by
        have hn := HN.out
        unfold Hid
        rw [fillTo_set L _ (by omega), fillTo_set L _ (by omega), fillTo_set L _ (by omega)]
        congr 1; omega
      have HXK := Lib.hid hxk
      clear hv hcell hfz ho hxk
      go_wp2
      go_roundw
      case rel => exact Lib.hid ⟨k + 1, by omega, by go_num, by rw [← hfil.out]; exact hset.out, ((HXK.out.setCell (Nat.le_refl _) _).setCell (Nat.le_refl _) _).setCell (Nat.le_refl _) _⟩
      case measure => simp [intOf]; omega
    · obtain rfl : k = n := by omega
      rw [← HN.out, fillTo_end] at ho
      go_wp2
      go_ret
      exact ⟨_, rfl, ho, hx⟩
set_option maxRecDepth 100000 in
theorem eqInsS_c (a a' : Option Addr) (n cap cap' : Nat) (L : List Int) (w : World) (hl : FlatAt w a n L) (hl' : FlatAt w a' n L) (hlen : n ≤ 4611686018427387904) :
    Calls Try.prog 23 #[.slice a n cap, .slice a' n cap'] w fun e w' => e = .returned (.bool true) ∧ Ext w w' := by
  have HL := Lib.hid hl
  have HL' := Lib.hid hl'
  clear hl hl'
  have hne : ((n : Int) != (n : Int)) = false := by simp
  go_enter Try.func23, Try.ntmps23
  go_wp2
  go_loopw [5] (fun i wr => Hid (∃ k : Nat, k ≤ n ∧ i = .int .i64 k ∧ Ext w wr)) (fun i _ => n - (intOf i).toNat)
  case atStart => exact Lib.hid ⟨0, Nat.zero_le _, rfl, Ext.refl _⟩
  case round =>
    obtain ⟨k, hk, rfl, hx⟩ := hrel.out
    clear hrel
    have HX := Lib.hid hx
    by_cases hlt : k < n
    · obtain ⟨b, off, rfl, hb, hc⟩ := (HL.out.ext hx).cells (by omega)
      obtain ⟨c0, c1, c2⟩ := hc k hlt
      obtain ⟨b', off', rfl, hb', hc'⟩ := (HL'.out.ext hx).cells (by omega)
      obtain ⟨c0', c1', c2'⟩ := hc' k hlt
      clear hc hc' hx
      go_wp2
      go_region_law ((first
        | (go_simp; go_at_call 57; refine (eqIns_c _ _ _ _).mono ?_; rintro e wk ⟨rfl, y⟩
           have hxk := Lib.hid (HX.out.trans (Ext.trans (by (repeat (first | exact Ext.refl _ | assumption | refine Ext.alloc ?_ _ | refine Ext.drewN ?_ _ | refine Ext.drew ?_))) y))
           clear y)
        | fail))
      all_goals
        go_wp2
        go_roundw
        case rel => exact Lib.hid ⟨k + 1, by omega, by go_num, hxk.out⟩
        case measure => simp [intOf]; omega
    · obtain rfl : k = n := by omega
      go_wp2
      go_ret
      exact ⟨rfl, hx⟩
set_option maxRecDepth 100000 in
set_option maxHeartbeats 1000000 in
theorem markInsS_c (a : Option Addr) (n cap B : Nat) (L : List Int) (k : Int) (w : World) (ho : OwnF w B 49 (.slice a n cap) n L) (hlen : n ≤ 1048576) (hk0 : 0 ≤ k) (hk : k ≤ 4194304) :
    Calls Try.prog 28 #[.slice a n cap, .int .i64 k] w fun e w' => e = .returned (.int .i64 (k + ((n * 3 : Nat) : Int))) ∧ OwnF w' B 49 (.slice a n cap) n (marks k (n * 3)) ∧ w.grownBy w' (Value.slice a n cap).ownBlock := by
  have HN := Lib.hid ho.len
  go_enter Try.func28, Try.ntmps28
  go_wp2
  go_loopw [1, 5] (fun kk i wr => Hid (∃ j : Nat, j ≤ n ∧ i = .int .i64 j ∧ kk = .int .i64 (k + ((j * 3 : Nat) : Int)) ∧ OwnF wr B 49 (.slice a n cap) n (markTo L k (j * 3)) ∧ w.grownBy wr (Value.slice a n cap).ownBlock)) (fun _ i _ => n - (intOf i).toNat)
  case atStart => exact Lib.hid ⟨0, Nat.zero_le _, rfl, by simp, by rw [Nat.zero_mul, markTo_zero]; exact ho, (Ext.refl w).grown _⟩
  case round =>
    obtain ⟨j, hj, rfl, rfl, ho1, hg⟩ := hrel.out
    clear hrel ho
    by_cases hlt : j < n
    · obtain ⟨g, cap', hv, hB, hgs, hcell, hfz⟩ := ho1.row (by omega)
      obtain ⟨rfl, rfl⟩ : a = some ⟨g, 0, none⟩ ∧ cap = cap' := by simpa using hv
      have d0 := hcell (j * 3) (by omega)
      have d1 := hcell (j * 3 + 1) (by omega)
      have d2 := hcell (j * 3 + 2) (by omega)
      have f0 := hfz (j * 3)
      have f1 := hfz (j * 3 + 1)
      have f2 := hfz (j * 3 + 2)
      obtain ⟨K0, hK0⟩ : ∃ K0 : Int, K0 = k + ((j * 3 : Nat) : Int) := ⟨_, rfl⟩
      obtain ⟨K1, hK1⟩ : ∃ K1 : Int, K1 = k + ((j * 3 + 1 : Nat) : Int) := ⟨_, rfl⟩
      obtain ⟨K2, hK2⟩ : ∃ K2 : Int, K2 = k + ((j * 3 + 2 : Nat) : Int) := ⟨_, rfl⟩
      have hset := Lib.hid ((((ho1.set (j * 3) K0).1).set (j * 3 + 1) K1).1.set (j * 3 + 2) K2).1
      have hmk : Hid ((((markTo L k (j * 3)).set (j * 3) K0).set (j * 3 + 1) K1).set (j * 3 + 2) K2 = markTo L k ((j + 1) * 3)) := by
        have hn := HN.out
        unfold Hid
        rw [hK0, hK1, hK2, markTo_set L k _ (by omega), markTo_set L k _ (by omega), markTo_set L k _ (by omega)]
        congr 1; omega
      rw [hmk.out] at hset
      have HG := Lib.hid (grown_setCell (p := ⟨g, j * 3 + 2, none⟩) (u := .int .i64 K2) (grown_setCell (p := ⟨g, j * 3 + 1, none⟩) (u := .int .i64 K1) (grown_setCell (p := ⟨g, j * 3, none⟩) (u := .int .i64 K0) hg rfl) rfl) rfl)
      clear hv hcell hfz ho1 hg
      have e1 : K0 + 1 = K1 := by omega
      have e2 : K1 + 1 = K2 := by omega
      rw [← hK0]
      have HK2 := Lib.hid hK2
      have b0 : 0 ≤ K0 ∧ K0 ≤ 9000000 := by omega
      have b1 : 0 ≤ K1 ∧ K1 ≤ 9000000 := by omega
      have b2 : 0 ≤ K2 ∧ K2 ≤ 9000000 := by omega
      clear hK0 hK1 hK2 hmk
      go_wp2
      go_roundw
      case rel => exact Lib.hid ⟨j + 1, by omega, by go_num, by have := HK2.out; congr 1; omega, hset.out, HG.out⟩
      case measure => simp [intOf]; omega
    · obtain rfl : j = n := by omega
      rw [← HN.out, markTo_end, HN.out] at ho1
      go_wp2
      go_ret
      exact ⟨rfl, ho1, hg⟩
set_option maxRecDepth 100000 in
theorem heldInsS_c (a : Option Addr) (n cap : Nat) (k : Int) (w : World) (hi : FlatAt w a n (marks k (n * 3))) (hlen : n ≤ 1048576) (hk0 : 0 ≤ k) (hk : k ≤ 4194304) :
    Calls Try.prog 29 #[.slice a n cap, .int .i64 k] w fun e w' => e = .returned (.int .i64 (k + ((n * 3 : Nat) : Int))) ∧ w = w' := by
  have HL := Lib.hid hi
  clear hi
  go_enter Try.func29, Try.ntmps29
  go_wp2
  go_loop [1, 5] (fun kk i => Hid (∃ j : Nat, j ≤ n ∧ i = .int .i64 j ∧ kk = .int .i64 (k + ((j * 3 : Nat) : Int)))) (fun _ i => n - (intOf i).toNat)
  case atStart => exact Lib.hid ⟨0, Nat.zero_le _, rfl, by simp⟩
  case round =>
    obtain ⟨j, hj, rfl, rfl⟩ := hrel.out
    clear hrel
    by_cases hlt : j < n
    · obtain ⟨b, off, rfl, hb, hc⟩ := HL.out.cells (by omega)
      obtain ⟨c0, c1, c2⟩ := hc j hlt
      rw [marks_get k _ _ (by omega)] at c0 c1 c2
      clear hc
      have e1 : k + ((j * 3 : Nat) : Int) + 1 = k + ((j * 3 + 1 : Nat) : Int) := by omega
      have e2 : k + ((j * 3 + 1 : Nat) : Int) + 1 = k + ((j * 3 + 2 : Nat) : Int) := by omega
      generalize hK0 : k + ((j * 3 : Nat) : Int) = K0 at *
      generalize hK1 : k + ((j * 3 + 1 : Nat) : Int) = K1 at *
      generalize hK2 : k + ((j * 3 + 2 : Nat) : Int) = K2 at *
      have HK2 := Lib.hid hK2
      have b0 : 0 ≤ K0 ∧ K0 ≤ 9000000 := by omega
      have b1 : 0 ≤ K1 ∧ K1 ≤ 9000000 := by omega
      have b2 : 0 ≤ K2 ∧ K2 ≤ 9000000 := by omega
      have n0 : (K0 != K0) = false := by simp
      have n1 : (K1 != K1) = false := by simp
      have n2 : (K2 != K2) = false := by simp
      clear hK0 hK1 hK2
      go_wp2
      go_round
      case rel => exact Lib.hid ⟨j + 1, by omega, by go_num, by have := HK2.out; congr 1; omega⟩
      case measure => simp [intOf]; omega
    · obtain rfl : j = n := by omega
      go_wp2
      go_ret
      exact ⟨rfl, rfl⟩
end Go.Proofs.Ytnhdachenckceaa
