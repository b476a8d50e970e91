/- Contracts: rows again and again, and back. -/
import Derived.Test.YtgpfebpjiddjjaaDoorD
import Derived.RegionTactic
namespace Go.Proofs.YtgpfebpjiddjjaaDoor
set_option linter.unusedVariables false
open Go.RowKit Go.Kt

/-- RowsStar, RowsBack. -/
def starF (n : Int) (a : List Int) : List Int := if rvB n a then starTo a a.length else []
def backF (n : Int) (a : List Int) : List Int := if rvB n a then backTo a a.length else []

theorem iRowsStar_c (n : Int) (a : Option Addr) (ca : Nat) (la : List Int) (w : World) (ha : IntsAt w a la) (hla : la.length ≤ 1048576) :
    Calls Tryd.prog 76 #[.int .i64 n, .slice a la.length ca] w (RetI 3 w (starF n la)) := by
  cases h1 : rvB n la
  · have hF : starF n la = [] := by simp [starF, h1]
    rw [hF]
    clear hF
    go_enter Tryd.func76, Tryd.ntmps76
    go_wp2_with fail
    refine (iRowsValid_c n a ca la w ha (by omega)).mono ?_
    rintro e w1 ⟨rfl, hx⟩
    go_wp2
    go_ret
    exact ⟨_, rfl, OwnI.nil _ _ _, hx⟩
  · have hF : starF n la = starTo la la.length := by simp [starF, h1]
    rw [hF]
    obtain ⟨s1, sb, -, l5⟩ := rvB_sets h1
    have sb' : ∀ i, i < la.length → natAt la i < 2 ^ 5 := fun i hi => Nat.lt_of_lt_of_le (sb i hi) (by
      have hn : n.toNat ≤ 5 := by have := rvB_len h1; omega
      exact Nat.pow_le_pow_right (by decide) hn)
    have S1 := Lib.hid s1
    have SB := Lib.hid sb'
    have HA := Lib.hid ha
    clear hF s1 sb sb'
    go_enter Tryd.func76, Tryd.ntmps76
    go_wp2_with fail
    refine (iRowsValid_c n a ca la w ha (by omega)).mono ?_
    rintro e w1 ⟨rfl, hx⟩
    clear ha
    go_wp2
    go_loopw [5, 15] (fun v i wr => Hid (∃ k : Nat, k ≤ la.length ∧ i = .int .i64 k ∧ OwnI wr w.heap.size 3 v (starTo la k) ∧ Ext w wr)) (fun _ i _ => la.length - (intOf i).toNat)
    case atStart => exact Lib.hid ⟨0, Nat.zero_le _, rfl, OwnI.nil _ _ _, hx⟩
    case round =>
      obtain ⟨k, hk, rfl, ho, hxr⟩ := hrel.out
      clear hrel
      by_cases hlt : k < la.length
      · have hia := HA.out.ext hxr
        have hpc := pow2_cast k
        have hp1 : pow2 k ≤ 16 := pow2_le k 4 (by omega)
        have hpl : pow2 k < 2 ^ 5 := Nat.lt_of_le_of_lt hp1 (by decide)
        have PL := Lib.hid hpl
        clear hpl
        have e0 : bits .or .i64 ((pow2 k : Nat) : Int) ((img la (pow2 k) : Nat) : Int) = ((stepN la (pow2 k) : Nat) : Int) := i64_orN _ _ (by omega) (Nat.lt_trans (img_lt SB.out _) (by decide))
        go_wp2_with (go_at_call 87; refine (image_c _ _ _ _ _ hia S1.out (by omega) (by omega)).mono ?_; rintro e w' ⟨rfl, rfl⟩)
        go_loop [7, 8] (fun s nx => Hid (∃ i : Nat, i ≤ iterN la (pow2 k) i ∧ s = .int .i64 (iterN la (pow2 k) i : Nat) ∧ nx = .int .i64 (iterN la (pow2 k) (i + 1) : Nat))) (fun s _ => 40 - (intOf s).toNat)
        case atStart => exact Lib.hid ⟨0, Nat.zero_le _, rfl, rfl⟩
        case round =>
          obtain ⟨i, hi, rfl, rfl⟩ := hrel.out
          clear hrel e0
          have l1 : iterN la (pow2 k) i < 32 := iterN_lt SB.out PL.out i
          have l2 : iterN la (pow2 k) (i + 1) < 32 := iterN_lt SB.out PL.out (i + 1)
          have hge : iterN la (pow2 k) i ≤ iterN la (pow2 k) (i + 1) := stepN_ge _ _
          by_cases hf : iterN la (pow2 k) (i + 1) = iterN la (pow2 k) i
          · have hb : (((iterN la (pow2 k) (i + 1) : Nat) : Int) != ((iterN la (pow2 k) i : Nat) : Int)) = false := by simp [hf]
            have HC := Lib.hid (clo_of_fix la (pow2 k) i (by omega) hf)
            clear hf
            go_wp2_with (at_builtin; refine append_int rfl _ _ _ rfl w.heap.size 3 Tryd.underlying41 infoInt _ (starTo la k) rfl ?ho _ (((iterN la (pow2 k) i : Nat) : Int)) rfl ?hc ?c1 ?c2 ?_)
            case ho => exact ho.ext (by (repeat (first | exact Ext.refl _ | assumption | refine Ext.alloc ?_ _ | refine Ext.drewN ?_ _ | refine Ext.drew ?_)))
            try (case hc => first | exact cell_new0 _ _ _ | simp)
            case c1 => rw [starTo_length]; omega
            case c2 => have := hxr.size; simp; omega
            intro v' w' ho' hg
            go_wp2
            go_roundw
            case rel => exact Lib.hid ⟨k + 1, by omega, by go_num, by rw [starTo_succ, HC.out]; exact ho', OwnI.grown (ho.ext (by (repeat (first | exact Ext.refl _ | assumption | refine Ext.alloc ?_ _ | refine Ext.drewN ?_ _ | refine Ext.drew ?_)))) (by (repeat (first | exact Ext.refl _ | assumption | refine Ext.alloc ?_ _ | refine Ext.drewN ?_ _ | refine Ext.drew ?_))) hg⟩
            case measure => simp [intOf]; omega
          · have hb : (((iterN la (pow2 k) (i + 1) : Nat) : Int) != ((iterN la (pow2 k) i : Nat) : Int)) = true := by
              rw [bne_iff_ne]; intro he; exact hf (by exact_mod_cast he)
            have l3 : img la (iterN la (pow2 k) (i + 1)) < 4294967296 := Nat.lt_trans (img_lt SB.out _) (by decide)
            have e1 : bits .or .i64 ((iterN la (pow2 k) (i + 1) : Nat) : Int) ((img la (iterN la (pow2 k) (i + 1)) : Nat) : Int) = ((iterN la (pow2 k) (i + 1 + 1) : Nat) : Int) := i64_orN _ _ (by omega) l3
            have hgt : iterN la (pow2 k) i < iterN la (pow2 k) (i + 1) := by omega
            clear hf
            go_wp2_with (go_at_call 87; refine (image_c _ _ _ _ _ hia S1.out (by omega) (by omega)).mono ?_; rintro e w' ⟨rfl, rfl⟩)
            go_round
            case rel => exact Lib.hid ⟨i + 1, by omega, rfl, rfl⟩
            case measure => simp [intOf]; omega
      · obtain rfl : k = la.length := by omega
        go_wp2
        go_ret
        exact ⟨_, rfl, ho, hxr⟩

theorem backF_len (n : Int) (a : List Int) : (backF n a).length ≤ 5 := by
  unfold backF
  split
  · rename_i h; rw [backTo_length]; exact (rvB_sets h).2.2.2
  · simp
theorem starF_len (n : Int) (a : List Int) : (starF n a).length ≤ 5 := by
  unfold starF
  split
  · rename_i h; rw [starTo_length]; exact (rvB_sets h).2.2.2
  · simp
theorem plusF_len (n : Int) (a b : List Int) : (plusF n a b).length ≤ 5 := by
  unfold plusF
  split
  · rename_i h; rw [plusTo_length]; exact (rvB_sets (Bool.and_eq_true_iff.1 h).1).2.2.2
  · simp
theorem thenF_len (n : Int) (a b : List Int) : (thenF n a b).length ≤ 5 := by
  unfold thenF
  split
  · rename_i h; rw [thenTo_length]; exact (rvB_sets (Bool.and_eq_true_iff.1 h).1).2.2.2
  · simp
end Go.Proofs.YtgpfebpjiddjjaaDoor
