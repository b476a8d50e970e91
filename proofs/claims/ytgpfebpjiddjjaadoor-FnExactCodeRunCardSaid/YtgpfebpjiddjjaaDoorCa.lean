/- Contracts: the laws' helpers over slices of instructions. -/
import Derived.Test.YtgpfebpjiddjjaaDoorC
import Derived.Test.YtgpfebpjiddjjaaDoorFlat
import Derived.Deep.RegionLaw
namespace Go.Proofs.YtgpfebpjiddjjaaDoor
set_option linter.unusedVariables false
open Go.RowKit Go.Kt

theorem infoIns : (Tryd.prog.info? 56).map (fun i => (i.zero, i.size, i.bytes)) = some (some (.agg #[.int .i64 0, .int .i64 0, .int .i64 0]), 3, 24) := by kernel_rfl
abbrev insV (k a t : Int) : Value := .agg #[.int .i64 k, .int .i64 a, .int .i64 t]
theorem toIns_c (k a t : Int) (w : World) : Calls Tryd.prog 33 #[insV k a t] w fun e w' => e = .returned (insV k a t) ∧ Ext w w' := by
  go_enter Tryd.func33, Tryd.ntmps33
  go_wp2
  refine bodyPost_ret (v := insV k a t) (by simp [results, Tryd.results33, go_sem]) rfl ⟨rfl, ?_⟩
  (repeat (first | exact Ext.refl _ | assumption | refine Ext.alloc ?_ _ | refine Ext.drewN ?_ _ | refine Ext.drew ?_ | refine Ext.setCell ?_ (by simp; try omega) _))
theorem eqIns_c (k a t : Int) (w : World) : Calls Tryd.prog 39 #[insV k a t, insV k a t] w fun e w' => e = .returned (.bool true) ∧ Ext w w' := by
  have h1 : (k != k) = false := by simp
  have h2 : (a != a) = false := by simp
  have h3 : (t != t) = false := by simp
  go_enter Tryd.func39, Tryd.ntmps39
  go_wp2
  go_ret
  exact ⟨rfl, by (repeat (first | exact Ext.refl _ | assumption | refine Ext.alloc ?_ _ | refine Ext.drewN ?_ _ | refine Ext.drew ?_))⟩
theorem szInsS_c (a : Option Addr) (cap n : Nat) (left : Int) (w : World) (hn : n ≤ 9223372036854775807) (h0 : 0 ≤ left) (h1 : left ≤ 4194304) :
    Calls Tryd.prog 7 #[.slice a n cap, .int .i64 left] w fun e w' => e = .returned (.int .i64 (if (n : Int) ≤ left then left - n else -1)) ∧ w = w' := by
  by_cases h : (n : Int) ≤ left
  · rw [if_pos h]
    go_enter Tryd.func7, Tryd.ntmps7
    go_wp2
    go_ret
    exact ⟨rfl, rfl⟩
  · rw [if_neg h]
    have hlt : left - (n : Int) < 0 := by omega
    go_enter Tryd.func7, Tryd.ntmps7
    go_wp2
    go_ret
    exact ⟨rfl, rfl⟩
theorem fillTo_zero' (L : List Int) (n : Nat) (h : L.length = n * 3) : fillTo L 0 = List.replicate (n * 3) 0 := by rw [fillTo_zero, h]
set_option maxRecDepth 100000 in
theorem toInsS_c (a : Option Addr) (n cap : Nat) (L : List Int) (w : World) (hl : FlatAt w a n L) (hlen : n ≤ 4194304) :
    Calls Tryd.prog 10 #[.slice a n cap] w (RetF 56 w n L) := by
  have HL := Lib.hid hl
  have HN := Lib.hid hl.len
  clear hl
  go_enter Tryd.func10, Tryd.ntmps10
  go_wp2_with (at_make; refine want_make_ins _ (by rfl) _ _ _ rfl w.heap.size 56 Tryd.underlying32 infoIns _ _ n rfl rfl (by omega) (Nat.le_refl _) ?_)
  intro w1 ho hg
  have hx1 := Ext.of_grown hg
  clear hg
  go_wp2
  go_loopw [4] (fun i wr => Hid (∃ k : Nat, k ≤ n ∧ i = .int .i64 k ∧ OwnF wr w.heap.size 56 (.slice (some ⟨w.heap.size, 0, none⟩) n n) n (fillTo L (k * 3)) ∧ Ext w wr)) (fun i _ => n - (intOf i).toNat)
  case atStart => exact Lib.hid ⟨0, Nat.zero_le _, rfl, by rw [Nat.zero_mul, fillTo_zero' L n HN.out]; exact ho, hx1⟩
  case round =>
    obtain ⟨k, hk, rfl, ho, hx⟩ := hrel.out
    clear hrel hx1
    by_cases hlt : k < n
    · obtain ⟨b, off, rfl, hb, hc⟩ := (HL.out.ext hx).cells (by omega)
      obtain ⟨c0, c1, c2⟩ := hc k hlt
      have HO := Lib.hid ho
      have HX := Lib.hid hx
      clear hc ho hx
      go_wp2_with fail
      refine (toIns_c _ _ _ _).mono ?_
      rintro e wk ⟨rfl, y⟩
      have ho := HO.out.ext (Ext.trans (by (repeat (first | exact Ext.refl _ | assumption | refine Ext.alloc ?_ _ | refine Ext.drewN ?_ _ | refine Ext.drew ?_))) y)
      have hxk := HX.out.trans (Ext.trans (by (repeat (first | exact Ext.refl _ | assumption | refine Ext.alloc ?_ _ | refine Ext.drewN ?_ _ | refine Ext.drew ?_))) y)
      obtain ⟨g, cap', hv, -, hgs, hcell, hfz⟩ := ho.row (by omega)
      obtain ⟨rfl, -⟩ : w.heap.size = g ∧ n = cap' := by simpa using hv
      have d0 := hcell (k * 3) (by omega)
      have d1 := hcell (k * 3 + 1) (by omega)
      have d2 := hcell (k * 3 + 2) (by omega)
      have f0 := hfz (k * 3)
      have f1 := hfz (k * 3 + 1)
      have f2 := hfz (k * 3 + 2)
      have hset := Lib.hid ((((ho.set (k * 3) (nth L (k * 3))).1).set (k * 3 + 1) (nth L (k * 3 + 1))).1.set (k * 3 + 2) (nth L (k * 3 + 2))).1
      have hfil : Hid ((((fillTo L (k * 3)).set (k * 3) (nth L (k * 3))).set (k * 3 + 1) (nth L (k * 3 + 1))).set (k * 3 + 2) (nth L (k * 3 + 2)) = fillTo L ((k + 1) * 3)) := by
        have hn := HN.out
        unfold Hid
        rw [fillTo_set L _ (by omega), fillTo_set L _ (by omega), fillTo_set L _ (by omega)]
        congr 1; omega
      have HXK := Lib.hid hxk
      clear hv hcell hfz ho hxk
      go_wp2
      go_roundw
      case rel => exact Lib.hid ⟨k + 1, by omega, by go_num, by rw [← hfil.out]; exact hset.out, ((HXK.out.setCell (Nat.le_refl _) _).setCell (Nat.le_refl _) _).setCell (Nat.le_refl _) _⟩
      case measure => simp [intOf]; omega
    · obtain rfl : k = n := by omega
      rw [← HN.out, fillTo_end] at ho
      go_wp2
      go_ret
      exact ⟨_, rfl, ho, hx⟩
set_option maxRecDepth 100000 in
theorem eqInsS_c (a a' : Option Addr) (n cap cap' : Nat) (L : List Int) (w : World) (hl : FlatAt w a n L) (hl' : FlatAt w a' n L) (hlen : n ≤ 4611686018427387904) :
    Calls Tryd.prog 13 #[.slice a n cap, .slice a' n cap'] w fun e w' => e = .returned (.bool true) ∧ Ext w w' := by
  have HL := Lib.hid hl
  have HL' := Lib.hid hl'
  clear hl hl'
  have hne : ((n : Int) != (n : Int)) = false := by simp
  go_enter Tryd.func13, Tryd.ntmps13
  go_wp2
  go_loopw [5] (fun i wr => Hid (∃ k : Nat, k ≤ n ∧ i = .int .i64 k ∧ Ext w wr)) (fun i _ => n - (intOf i).toNat)
  case atStart => exact Lib.hid ⟨0, Nat.zero_le _, rfl, Ext.refl _⟩
  case round =>
    obtain ⟨k, hk, rfl, hx⟩ := hrel.out
    clear hrel
    have HX := Lib.hid hx
    by_cases hlt : k < n
    · obtain ⟨b, off, rfl, hb, hc⟩ := (HL.out.ext hx).cells (by omega)
      obtain ⟨c0, c1, c2⟩ := hc k hlt
      obtain ⟨b', off', rfl, hb', hc'⟩ := (HL'.out.ext hx).cells (by omega)
      obtain ⟨c0', c1', c2'⟩ := hc' k hlt
      clear hc hc' hx
      go_wp2
      go_region_law ((first
        | (go_simp; go_at_call 39; refine (eqIns_c _ _ _ _).mono ?_; rintro e wk ⟨rfl, y⟩
           have hxk := Lib.hid (HX.out.trans (Ext.trans (by (repeat (first | exact Ext.refl _ | assumption | refine Ext.alloc ?_ _ | refine Ext.drewN ?_ _ | refine Ext.drew ?_))) y))
           clear y)
        | fail))
      all_goals
        go_wp2
        go_roundw
        case rel => exact Lib.hid ⟨k + 1, by omega, by go_num, hxk.out⟩
        case measure => simp [intOf]; omega
    · obtain rfl : k = n := by omega
      go_wp2
      go_ret
      exact ⟨rfl, hx⟩
end Go.Proofs.YtgpfebpjiddjjaaDoor
