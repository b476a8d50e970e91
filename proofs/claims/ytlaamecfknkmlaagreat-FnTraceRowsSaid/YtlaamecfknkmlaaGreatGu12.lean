/- Merged texts: contracts and plain lemmas (D, E). -/
import Derived.Test.YtlaamecfknkmlaaGreatGu2
import Derived.StillTailTactics
import Derived.RegionTactic
/- Contracts: rows one or the other, one behind the other, again and again, and back. -/
namespace Go.Proofs.YtlaamecfknkmlaaGreat
set_option linter.unusedVariables false
open Go.RowKit Go.Kt

theorem rvB_len {n : Int} {l : List Int} (h : rvB n l = true) : (l.length : Int) = n := by
  simp only [rvB, decide_eq_true_eq] at h; exact h.2.2.1
theorem rvB_sets {n : Int} {l : List Int} (h : rvB n l = true) : Sets l ∧ (∀ i, i < l.length → natAt l i < 2 ^ n.toNat) ∧ 1 ≤ l.length ∧ l.length ≤ 5 := by
  simp only [rvB, decide_eq_true_eq] at h
  obtain ⟨h1, h2, h3, h4⟩ := h
  have hb : ∀ i, i < l.length → 0 ≤ nth l i ∧ nth l i < 2 ^ n.toNat := fun i hi => h4 _ (nth_mem l i hi)
  have hp := pow_le_32 n.toNat (by omega)
  refine ⟨fun i hi => by have := hb i hi; omega, fun i hi => ?_, by omega, by omega⟩
  have := hb i hi
  unfold natAt
  have h5 : ((nth l i).toNat : Int) < ((2 ^ n.toNat : Nat) : Int) := by rw [Int.toNat_of_nonneg this.1]; simpa using this.2
  exact_mod_cast h5

/-- RowsPlus. -/
def plusF (n : Int) (a b : List Int) : List Int := if rvB n a && rvB n b then plusTo a b a.length else []

theorem iRowsPlus_c (n : Int) (a b : Option Addr) (ca cb : Nat) (la lb : List Int) (w : World) (ha : IntsAt w a la) (hb : IntsAt w b lb) (hla : la.length ≤ 1048576) (hlb : lb.length ≤ 1048576) :
    Calls Tryz.prog 152 #[.int .i64 n, .slice a la.length ca, .slice b lb.length cb] w (RetI 3 w (plusF n la lb)) := by
  cases h1 : rvB n la
  · have hF : plusF n la lb = [] := by simp [plusF, h1]
    rw [hF]
    clear hF
    go_enter Tryz.func152, Tryz.ntmps152
    go_wp2_with fail
    refine (iRowsValid_c n a ca la w ha (by omega)).mono ?_
    rintro e w1 ⟨rfl, hx⟩
    go_wp2
    go_ret
    exact ⟨_, rfl, OwnI.nil _ _ _, hx⟩
  · cases h2 : rvB n lb
    · have hF : plusF n la lb = [] := by simp [plusF, h2]
      rw [hF]
      clear hF
      go_enter Tryz.func152, Tryz.ntmps152
      go_wp2_with fail
      refine (iRowsValid_c n a ca la w ha (by omega)).mono ?_
      rintro e w1 ⟨rfl, hx⟩
      go_wp2_with fail
      refine (iRowsValid_c n b cb lb w1 (hb.ext hx) (by omega)).mono ?_
      rintro e w2 ⟨rfl, hx2⟩
      go_wp2
      go_ret
      exact ⟨_, rfl, OwnI.nil _ _ _, hx.trans hx2⟩
    · have hF : plusF n la lb = plusTo la lb la.length := by simp [plusF, h1, h2]
      rw [hF]
      obtain ⟨s1, -, -, l5⟩ := rvB_sets h1
      obtain ⟨s2, -, -, -⟩ := rvB_sets h2
      have hll : la.length = lb.length := by have := rvB_len h1; have := rvB_len h2; omega
      have HL := Lib.hid hll
      have S1 := Lib.hid s1
      have S2 := Lib.hid s2
      clear hF s1 s2 hll
      go_enter Tryz.func152, Tryz.ntmps152
      go_wp2_with fail
      refine (iRowsValid_c n a ca la w ha (by omega)).mono ?_
      rintro e w1 ⟨rfl, hx⟩
      go_wp2_with fail
      refine (iRowsValid_c n b cb lb w1 (hb.ext hx) (by omega)).mono ?_
      rintro e w2 ⟨rfl, hx2⟩
      have hx2 := hx.trans hx2
      obtain ⟨b1, o1, p1, q1⟩ := ha
      obtain ⟨b2, o2, p2, q2⟩ := hb
      have P1 := Lib.hid p1
      have Q1 := Lib.hid q1
      have P2 := Lib.hid p2
      have Q2 := Lib.hid q2
      clear p1 q1 p2 q2 hx
      go_wp2
      go_loopw [7, 22] (fun v i wr => Hid (∃ k : Nat, k ≤ la.length ∧ i = .int .i64 k ∧ OwnI wr w.heap.size 3 v (plusTo la lb k) ∧ Ext w wr)) (fun _ i _ => la.length - (intOf i).toNat)
      case atStart => exact Lib.hid ⟨0, Nat.zero_le _, rfl, OwnI.nil _ _ _, hx2⟩
      case round =>
        obtain ⟨k, hk, rfl, ho, hxr⟩ := hrel.out
        clear hrel
        by_cases hlt : k < la.length
        · obtain ⟨rfl, hb1⟩ := P1.out (by omega)
          obtain ⟨rfl, hb2⟩ := P2.out (by have := HL.out; omega)
          have hlt2 : k < lb.length := by have := HL.out; omega
          have hc1 := hxr.cell' (Q1.out k hlt) hb1
          have hc2 := hxr.cell' (Q2.out k hlt2) hb2
          rw [S1.out.eq k hlt] at hc1
          rw [S2.out.eq k hlt2] at hc2
          have e := i64_orN (natAt la k) (natAt lb k) (S1.out.lt k hlt) (S2.out.lt k hlt2)
          clear P1 Q1 P2 Q2
          go_wp2_with (at_builtin; refine append_int rfl _ _ _ rfl w.heap.size 3 Tryz.underlying23 infoInt _ _ rfl (ho.ext (Ext.alloc (Ext.refl wr) _)) _ _ rfl (cell_new0 _ _ _) ?c1 ?c2 ?_)
          case c1 => rw [plusTo_length]; omega
          case c2 => have := hxr.size; simp; omega
          intro v' w' ho' hg
          go_wp2
          go_roundw
          case rel => exact Lib.hid ⟨k + 1, by omega, by go_num, by rw [plusTo_succ]; exact ho', OwnI.grown (ho.ext (Ext.alloc (Ext.refl wr) _)) (hxr.alloc _) hg⟩
          case measure => simp [intOf]; omega
        · obtain rfl : k = la.length := by omega
          go_wp2
          go_ret
          exact ⟨_, rfl, ho, hxr⟩
/-- RowsThen. -/
def thenF (n : Int) (a b : List Int) : List Int := if rvB n a && rvB n b then thenTo a b a.length else []

theorem iRowsThen_c (n : Int) (a b : Option Addr) (ca cb : Nat) (la lb : List Int) (w : World) (ha : IntsAt w a la) (hb : IntsAt w b lb) (hla : la.length ≤ 1048576) (hlb : lb.length ≤ 1048576) :
    Calls Tryz.prog 100 #[.int .i64 n, .slice a la.length ca, .slice b lb.length cb] w (RetI 3 w (thenF n la lb)) := by
  cases h1 : rvB n la
  · have hF : thenF n la lb = [] := by simp [thenF, h1]
    rw [hF]
    clear hF
    go_enter Tryz.func100, Tryz.ntmps100
    go_wp2_with fail
    refine (iRowsValid_c n a ca la w ha (by omega)).mono ?_
    rintro e w1 ⟨rfl, hx⟩
    go_wp2
    go_ret
    exact ⟨_, rfl, OwnI.nil _ _ _, hx⟩
  · cases h2 : rvB n lb
    · have hF : thenF n la lb = [] := by simp [thenF, h2]
      rw [hF]
      clear hF
      go_enter Tryz.func100, Tryz.ntmps100
      go_wp2_with fail
      refine (iRowsValid_c n a ca la w ha (by omega)).mono ?_
      rintro e w1 ⟨rfl, hx⟩
      go_wp2_with fail
      refine (iRowsValid_c n b cb lb w1 (hb.ext hx) (by omega)).mono ?_
      rintro e w2 ⟨rfl, hx2⟩
      go_wp2
      go_ret
      exact ⟨_, rfl, OwnI.nil _ _ _, hx.trans hx2⟩
    · have hF : thenF n la lb = thenTo la lb la.length := by simp [thenF, h1, h2]
      rw [hF]
      obtain ⟨s1, -, -, l5⟩ := rvB_sets h1
      obtain ⟨s2, -, -, -⟩ := rvB_sets h2
      have hll : la.length = lb.length := by have := rvB_len h1; have := rvB_len h2; omega
      have HL := Lib.hid hll
      have S1 := Lib.hid s1
      have S2 := Lib.hid s2
      clear hF s1 s2 hll
      go_enter Tryz.func100, Tryz.ntmps100
      go_wp2_with fail
      refine (iRowsValid_c n a ca la w ha (by omega)).mono ?_
      rintro e w1 ⟨rfl, hx⟩
      go_wp2_with fail
      refine (iRowsValid_c n b cb lb w1 (hb.ext hx) (by omega)).mono ?_
      rintro e w2 ⟨rfl, hx2⟩
      have hx2 := hx.trans hx2
      obtain ⟨b1, o1, p1, q1⟩ := ha
      have HB := Lib.hid hb
      have P1 := Lib.hid p1
      have Q1 := Lib.hid q1
      clear p1 q1 hx hb
      go_wp2
      go_loopw [7, 22] (fun v i wr => Hid (∃ k : Nat, k ≤ la.length ∧ i = .int .i64 k ∧ OwnI wr w.heap.size 3 v (thenTo la lb k) ∧ Ext w wr)) (fun _ i _ => la.length - (intOf i).toNat)
      case atStart => exact Lib.hid ⟨0, Nat.zero_le _, rfl, OwnI.nil _ _ _, hx2⟩
      case round =>
        obtain ⟨k, hk, rfl, ho, hxr⟩ := hrel.out
        clear hrel
        by_cases hlt : k < la.length
        · obtain ⟨rfl, hb1⟩ := P1.out (by omega)
          have hc1 := hxr.cell' (Q1.out k hlt) hb1
          rw [S1.out.eq k hlt] at hc1
          have hib := HB.out.ext hxr
          clear P1 Q1
          go_wp2_with (first | (go_at_call 81; refine (image_c _ _ _ _ _ hib S2.out (by have := HL.out; omega) (S1.out.lt k hlt)).mono ?_; rintro e w' ⟨rfl, rfl⟩) | (at_builtin; refine append_int rfl _ _ _ rfl w.heap.size 3 Tryz.underlying23 infoInt _ (thenTo la lb k) rfl ?ho _ (((img lb (natAt la k) : Nat) : Int)) rfl ?hc ?c1 ?c2 ?_))
          case ho => exact ho.ext (by (repeat (first | exact Ext.refl _ | assumption | refine Ext.alloc ?_ _ | refine Ext.drewN ?_ _ | refine Ext.drew ?_)))
          case hc => first | exact cell_new0 _ _ _ | simp
          case c1 => rw [thenTo_length]; omega
          case c2 => have := hxr.size; simp; omega
          intro v' w' ho' hg
          go_wp2
          go_roundw
          case rel => exact Lib.hid ⟨k + 1, by omega, by go_num, by rw [thenTo_succ]; exact ho', OwnI.grown (ho.ext (by (repeat (first | exact Ext.refl _ | assumption | refine Ext.alloc ?_ _ | refine Ext.drewN ?_ _ | refine Ext.drew ?_)))) (by (repeat (first | exact Ext.refl _ | assumption | refine Ext.alloc ?_ _ | refine Ext.drewN ?_ _ | refine Ext.drew ?_))) hg⟩
          case measure => simp [intOf]; omega
        · obtain rfl : k = la.length := by omega
          go_wp2
          go_ret
          exact ⟨_, rfl, ho, hxr⟩

theorem sRowsThen_c (n : Int) (a b : Option Addr) (ca cb : Nat) (la lb : List Int) (w : World) (ha : IntsAt w a la) (hb : IntsAt w b lb) (hla : la.length ≤ 1048576) (hlb : lb.length ≤ 1048576) :
    Calls Tryz.prog 102 #[.int .i64 n, .slice a la.length ca, .slice b lb.length cb] w (RetI 3 w (thenF n la lb)) := by
  have HA := Lib.hid ha
  have HB := Lib.hid hb
  clear ha hb
  cases h1 : rvB n la
  · have hF : thenF n la lb = [] := by simp [thenF, h1]
    rw [hF]
    clear hF
    go_enter Tryz.func102, Tryz.ntmps102
    go_wp2
    go_loopw [7, 8] (fun v i wr => Hid (v = .slice (some ⟨w.heap.size, 0, none⟩) 0 0 ∧ i = .int .i64 0 ∧ OwnI wr w.heap.size 3 v [] ∧ Ext w wr)) (fun _ _ _ => 0)
    case atStart => exact Lib.hid ⟨rfl, rfl, OwnI.empty _ _, (Ext.refl w).alloc _⟩
    case round =>
      obtain ⟨rfl, rfl, ho, hx⟩ := hrel.out
      clear hrel
      by_cases hlt : 0 < la.length
      · go_wp2_with fail
        refine (sRowsValid_c n a ca la _ (HA.out.ext hx) (by omega)).mono ?_
        rintro e w1 ⟨rfl, m, rfl⟩
        go_wp2
        go_ret
        exact ⟨_, rfl, ho.ext (by (repeat (first | exact Ext.refl _ | assumption | refine Ext.alloc ?_ _ | refine Ext.drewN ?_ _ | refine Ext.drew ?_))), by (repeat (first | exact Ext.refl _ | assumption | refine Ext.alloc ?_ _ | refine Ext.drewN ?_ _ | refine Ext.drew ?_))⟩
      · have h0 : la.length = 0 := by omega
        go_wp2
        go_ret
        exact ⟨_, rfl, ho, hx⟩
  · cases h2 : rvB n lb
    · have hF : thenF n la lb = [] := by simp [thenF, h2]
      rw [hF]
      clear hF
      go_enter Tryz.func102, Tryz.ntmps102
      go_wp2
      go_loopw [7, 8] (fun v i wr => Hid (v = .slice (some ⟨w.heap.size, 0, none⟩) 0 0 ∧ i = .int .i64 0 ∧ OwnI wr w.heap.size 3 v [] ∧ Ext w wr)) (fun _ _ _ => 0)
      case atStart => exact Lib.hid ⟨rfl, rfl, OwnI.empty _ _, (Ext.refl w).alloc _⟩
      case round =>
        obtain ⟨rfl, rfl, ho, hx⟩ := hrel.out
        clear hrel
        by_cases hlt : 0 < la.length
        · go_wp2_with fail
          refine (sRowsValid_c n a ca la _ (HA.out.ext hx) (by omega)).mono ?_
          rintro e w1 ⟨rfl, m, rfl⟩
          go_wp2_with fail
          refine (sRowsValid_c n b cb lb _ (HB.out.ext (by (repeat (first | exact Ext.refl _ | assumption | refine Ext.alloc ?_ _ | refine Ext.drewN ?_ _ | refine Ext.drew ?_)))) (by omega)).mono ?_
          rintro e w1 ⟨rfl, m', rfl⟩
          go_wp2
          go_ret
          exact ⟨_, rfl, ho.ext (by (repeat (first | exact Ext.refl _ | assumption | refine Ext.alloc ?_ _ | refine Ext.drewN ?_ _ | refine Ext.drew ?_))), by (repeat (first | exact Ext.refl _ | assumption | refine Ext.alloc ?_ _ | refine Ext.drewN ?_ _ | refine Ext.drew ?_))⟩
        · have h0 : la.length = 0 := by omega
          go_wp2
          go_ret
          exact ⟨_, rfl, ho, hx⟩
    · have hF : thenF n la lb = thenTo la lb la.length := by simp [thenF, h1, h2]
      rw [hF]
      obtain ⟨s1, -, -, l5⟩ := rvB_sets h1
      obtain ⟨s2, -, -, -⟩ := rvB_sets h2
      have hll : la.length = lb.length := by have := rvB_len h1; have := rvB_len h2; omega
      have HL := Lib.hid hll
      have S1 := Lib.hid s1
      have S2 := Lib.hid s2
      obtain ⟨b1, o1, p1, q1⟩ := HA.out
      have P1 := Lib.hid p1
      have Q1 := Lib.hid q1
      clear hF s1 s2 hll p1 q1
      go_enter Tryz.func102, Tryz.ntmps102
      go_wp2
      go_loopw [7, 8] (fun v i wr => Hid (∃ k : Nat, k ≤ la.length ∧ i = .int .i64 k ∧ OwnI wr w.heap.size 3 v (thenTo la lb k) ∧ Ext w wr)) (fun _ i _ => la.length - (intOf i).toNat)
      case atStart => exact Lib.hid ⟨0, Nat.zero_le _, rfl, OwnI.empty _ _, (Ext.refl w).alloc _⟩
      case round =>
        obtain ⟨k, hk, rfl, ho, hxr⟩ := hrel.out
        clear hrel
        by_cases hlt : k < la.length
        · have hia := HA.out.ext hxr
          have hib := HB.out.ext hxr
          obtain ⟨rfl, hb1⟩ := P1.out (by omega)
          have hc1 := hxr.cell' (Q1.out k hlt) hb1
          rw [S1.out.eq k hlt] at hc1
          clear P1 Q1 HA HB
          go_wp2_with fail
          refine (sRowsValid_c n _ ca la _ hia (by omega)).mono ?_
          rintro e w1 ⟨rfl, m, rfl⟩
          go_wp2_with fail
          refine (sRowsValid_c n b cb lb _ (hib.ext (by (repeat (first | exact Ext.refl _ | assumption | refine Ext.alloc ?_ _ | refine Ext.drewN ?_ _ | refine Ext.drew ?_)))) (by omega)).mono ?_
          rintro e w1 ⟨rfl, m', rfl⟩
          go_wp2_with (first | (go_at_call 84; refine (l7Image_c _ _ _ _ _ (hib.ext (by (repeat (first | exact Ext.refl _ | assumption | refine Ext.alloc ?_ _ | refine Ext.drewN ?_ _ | refine Ext.drew ?_)))) S2.out (by have := HL.out; omega) (S1.out.lt k hlt)).mono ?_; rintro e w' ⟨rfl, rfl⟩) | (at_builtin; refine append_int rfl _ _ _ rfl w.heap.size 3 Tryz.underlying23 infoInt _ (thenTo la lb k) rfl ?ho _ (((img lb (natAt la k) : Nat) : Int)) rfl ?hc ?c1 ?c2 ?_))
          case ho => exact ho.ext (by (repeat (first | exact Ext.refl _ | assumption | refine Ext.alloc ?_ _ | refine Ext.drewN ?_ _ | refine Ext.drew ?_)))
          case hc => first | exact cell_new0 _ _ _ | simp
          case c1 => rw [thenTo_length]; omega
          case c2 => have := hxr.size; simp; omega
          intro v' w' ho' hg
          go_wp2
          go_roundw
          case rel => exact Lib.hid ⟨k + 1, by omega, by go_num, by rw [thenTo_succ]; exact ho', OwnI.grown (ho.ext (by (repeat (first | exact Ext.refl _ | assumption | refine Ext.alloc ?_ _ | refine Ext.drewN ?_ _ | refine Ext.drew ?_)))) (by (repeat (first | exact Ext.refl _ | assumption | refine Ext.alloc ?_ _ | refine Ext.drewN ?_ _ | refine Ext.drew ?_))) hg⟩
          case measure => simp [intOf]; omega
        · obtain rfl : k = la.length := by omega
          go_wp2
          go_ret
          exact ⟨_, rfl, ho, hxr⟩

set_option maxRecDepth 100000 in
theorem sRowsPlus_c (n : Int) (a b : Option Addr) (ca cb : Nat) (la lb : List Int) (w : World) (ha : IntsAt w a la) (hb : IntsAt w b lb) (hla : la.length ≤ 1048576) (hlb : lb.length ≤ 1048576) :
    Calls Tryz.prog 144 #[.int .i64 n, .slice a la.length ca, .slice b lb.length cb] w (RetI 3 w (plusF n la lb)) := by
  have HA := Lib.hid ha
  have HB := Lib.hid hb
  clear ha hb
  cases h1 : rvB n la
  · have hF : plusF n la lb = [] := by simp [plusF, h1]
    rw [hF]
    clear hF
    go_enter Tryz.func144, Tryz.ntmps144
    go_wp2
    go_loopw [7, 8] (fun v i wr => Hid (v = .slice (some ⟨w.heap.size, 0, none⟩) 0 0 ∧ i = .int .i64 0 ∧ OwnI wr w.heap.size 3 v [] ∧ Ext w wr)) (fun _ _ _ => 0)
    case atStart => exact Lib.hid ⟨rfl, rfl, OwnI.empty _ _, (Ext.refl w).alloc _⟩
    case round =>
      obtain ⟨rfl, rfl, ho, hx⟩ := hrel.out
      clear hrel
      by_cases hlt : 0 < la.length
      · go_wp2_with fail
        refine (sRowsValid_c n a ca la _ (HA.out.ext hx) (by omega)).mono ?_
        rintro e w1 ⟨rfl, m, rfl⟩
        go_wp2
        go_ret
        exact ⟨_, rfl, ho.ext (by (repeat (first | exact Ext.refl _ | assumption | refine Ext.alloc ?_ _ | refine Ext.drewN ?_ _ | refine Ext.drew ?_))), by (repeat (first | exact Ext.refl _ | assumption | refine Ext.alloc ?_ _ | refine Ext.drewN ?_ _ | refine Ext.drew ?_))⟩
      · have h0 : la.length = 0 := by omega
        go_wp2
        go_ret
        exact ⟨_, rfl, ho, hx⟩
  · cases h2 : rvB n lb
    · have hF : plusF n la lb = [] := by simp [plusF, h2]
      rw [hF]
      clear hF
      go_enter Tryz.func144, Tryz.ntmps144
      go_wp2
      go_loopw [7, 8] (fun v i wr => Hid (v = .slice (some ⟨w.heap.size, 0, none⟩) 0 0 ∧ i = .int .i64 0 ∧ OwnI wr w.heap.size 3 v [] ∧ Ext w wr)) (fun _ _ _ => 0)
      case atStart => exact Lib.hid ⟨rfl, rfl, OwnI.empty _ _, (Ext.refl w).alloc _⟩
      case round =>
        obtain ⟨rfl, rfl, ho, hx⟩ := hrel.out
        clear hrel
        by_cases hlt : 0 < la.length
        · go_wp2_with fail
          refine (sRowsValid_c n a ca la _ (HA.out.ext hx) (by omega)).mono ?_
          rintro e w1 ⟨rfl, m, rfl⟩
          go_wp2_with fail
          refine (sRowsValid_c n b cb lb _ (HB.out.ext (by (repeat (first | exact Ext.refl _ | assumption | refine Ext.alloc ?_ _ | refine Ext.drewN ?_ _ | refine Ext.drew ?_)))) (by omega)).mono ?_
          rintro e w1 ⟨rfl, m', rfl⟩
          go_wp2
          go_ret
          exact ⟨_, rfl, ho.ext (by (repeat (first | exact Ext.refl _ | assumption | refine Ext.alloc ?_ _ | refine Ext.drewN ?_ _ | refine Ext.drew ?_))), by (repeat (first | exact Ext.refl _ | assumption | refine Ext.alloc ?_ _ | refine Ext.drewN ?_ _ | refine Ext.drew ?_))⟩
        · have h0 : la.length = 0 := by omega
          go_wp2
          go_ret
          exact ⟨_, rfl, ho, hx⟩
    · have hF : plusF n la lb = plusTo la lb la.length := by simp [plusF, h1, h2]
      rw [hF]
      obtain ⟨s1, -, -, l5⟩ := rvB_sets h1
      obtain ⟨s2, -, -, -⟩ := rvB_sets h2
      have hll : la.length = lb.length := by have := rvB_len h1; have := rvB_len h2; omega
      have HL := Lib.hid hll
      have S1 := Lib.hid s1
      have S2 := Lib.hid s2
      obtain ⟨b1, o1, p1, q1⟩ := HA.out
      have P1 := Lib.hid p1
      have Q1 := Lib.hid q1
      clear hF s1 s2 hll p1 q1
      go_enter Tryz.func144, Tryz.ntmps144
      go_wp2
      go_loopw [7, 8] (fun v i wr => Hid (∃ k : Nat, k ≤ la.length ∧ i = .int .i64 k ∧ OwnI wr w.heap.size 3 v (plusTo la lb k) ∧ Ext w wr)) (fun _ i _ => la.length - (intOf i).toNat)
      case atStart => exact Lib.hid ⟨0, Nat.zero_le _, rfl, OwnI.empty _ _, (Ext.refl w).alloc _⟩
      case round =>
        obtain ⟨k, hk, rfl, ho, hxr⟩ := hrel.out
        clear hrel
        by_cases hlt : k < la.length
        · have hia := HA.out.ext hxr
          have hib := HB.out.ext hxr
          obtain ⟨b2, o2, p2, q2⟩ := HB.out
          obtain ⟨rfl, hb1⟩ := P1.out (by omega)
          have hcw1 := Q1.out k hlt
          have hlt2 : k < lb.length := by have := HL.out; omega
          obtain ⟨rfl, hb2⟩ := p2 (by omega)
          have hcw2 := q2 k hlt2
          rw [S1.out.eq k hlt] at hcw1
          rw [S2.out.eq k hlt2] at hcw2
          have hc1 := hxr.cell' hcw1 hb1
          have hc2 := hxr.cell' hcw2 hb2
          have HW1 := Lib.hid hcw1
          have HW2 := Lib.hid hcw2
          clear hcw1 hcw2
          clear P1 Q1 HA HB p2 q2
          go_wp2_with fail
          refine (sRowsValid_c n _ ca la _ hia (by omega)).mono ?_
          rintro e w1 ⟨rfl, m, rfl⟩
          go_wp2_with fail
          refine (sRowsValid_c n _ cb lb _ (hib.ext (by (repeat (first | exact Ext.refl _ | assumption | refine Ext.alloc ?_ _ | refine Ext.drewN ?_ _ | refine Ext.drew ?_)))) (by omega)).mono ?_
          rintro e w1 ⟨rfl, m', rfl⟩
          go_wp2
          have hlo := S1.out.lt k hlt
          have hlo2 := S2.out.lt k hlt2
          go_region_held3 (fun w' => w'.cell? ⟨b1, o1 + k, none⟩ = some (.int .i64 ((natAt la k : Nat) : Int)) ∧ w'.cell? ⟨b2, o2 + k, none⟩ = some (.int .i64 ((natAt lb k : Nat) : Int)))
            (first
              | go_keep
              | (have hE := OwnI.grown (w0 := w) (ho.ext (by (repeat (first | exact Ext.refl _ | assumption | refine Ext.alloc ?_ _ | refine Ext.drewN ?_ _ | refine Ext.drew ?_)))) (by (repeat (first | exact Ext.refl _ | assumption | refine Ext.alloc ?_ _ | refine Ext.drewN ?_ _ | refine Ext.drew ?_))) hg
                 exact ⟨hE.cell' HW1.out hb1, hE.cell' HW2.out hb2⟩))
            ((first
              | (go_at_call 122; refine (l1Either_c _ _ _ hlo hlo2).mono ?_; rintro e w' ⟨rfl, rfl⟩)
              | (refine step_append_int rfl _ _ _ rfl w.heap.size 3 Tryz.underlying23 infoInt _ (plusTo la lb k) rfl (ho.ext (by (repeat (first | exact Ext.refl _ | assumption | refine Ext.alloc ?_ _ | refine Ext.drewN ?_ _ | refine Ext.drew ?_)))) _ ((orN (natAt la k) (natAt lb k) : Nat) : Int) rfl (by first | exact cell_new0 _ _ _ | simp) (by rw [plusTo_length]; omega) (by have := hxr.size; simp; omega) ?_; intro v' w' ho' hg)))
          go_wp2
          go_roundw
          case rel => exact Lib.hid ⟨k + 1, by omega, by go_num, by rw [plusTo_succ]; exact ho', OwnI.grown (ho.ext (by (repeat (first | exact Ext.refl _ | assumption | refine Ext.alloc ?_ _ | refine Ext.drewN ?_ _ | refine Ext.drew ?_)))) (by (repeat (first | exact Ext.refl _ | assumption | refine Ext.alloc ?_ _ | refine Ext.drewN ?_ _ | refine Ext.drew ?_))) hg⟩
          case measure => simp [intOf]; omega
        · obtain rfl : k = la.length := by omega
          go_wp2
          go_ret
          exact ⟨_, rfl, ho, hxr⟩
end Go.Proofs.YtlaamecfknkmlaaGreat
/- Contracts: rows again and again, and back. -/
namespace Go.Proofs.YtlaamecfknkmlaaGreat
set_option linter.unusedVariables false
open Go.RowKit Go.Kt

/-- RowsStar, RowsBack. -/
def starF (n : Int) (a : List Int) : List Int := if rvB n a then starTo a a.length else []
def backF (n : Int) (a : List Int) : List Int := if rvB n a then backTo a a.length else []

theorem iRowsStar_c (n : Int) (a : Option Addr) (ca : Nat) (la : List Int) (w : World) (ha : IntsAt w a la) (hla : la.length ≤ 1048576) :
    Calls Tryz.prog 153 #[.int .i64 n, .slice a la.length ca] w (RetI 3 w (starF n la)) := by
  cases h1 : rvB n la
  · have hF : starF n la = [] := by simp [starF, h1]
    rw [hF]
    clear hF
    go_enter Tryz.func153, Tryz.ntmps153
    go_wp2_with fail
    refine (iRowsValid_c n a ca la w ha (by omega)).mono ?_
    rintro e w1 ⟨rfl, hx⟩
    go_wp2
    go_ret
    exact ⟨_, rfl, OwnI.nil _ _ _, hx⟩
  · have hF : starF n la = starTo la la.length := by simp [starF, h1]
    rw [hF]
    obtain ⟨s1, sb, -, l5⟩ := rvB_sets h1
    have sb' : ∀ i, i < la.length → natAt la i < 2 ^ 5 := fun i hi => Nat.lt_of_lt_of_le (sb i hi) (by
      have hn : n.toNat ≤ 5 := by have := rvB_len h1; omega
      exact Nat.pow_le_pow_right (by decide) hn)
    have S1 := Lib.hid s1
    have SB := Lib.hid sb'
    have HA := Lib.hid ha
    clear hF s1 sb sb'
    go_enter Tryz.func153, Tryz.ntmps153
    go_wp2_with fail
    refine (iRowsValid_c n a ca la w ha (by omega)).mono ?_
    rintro e w1 ⟨rfl, hx⟩
    clear ha
    go_wp2
    go_loopw [5, 15] (fun v i wr => Hid (∃ k : Nat, k ≤ la.length ∧ i = .int .i64 k ∧ OwnI wr w.heap.size 3 v (starTo la k) ∧ Ext w wr)) (fun _ i _ => la.length - (intOf i).toNat)
    case atStart => exact Lib.hid ⟨0, Nat.zero_le _, rfl, OwnI.nil _ _ _, hx⟩
    case round =>
      obtain ⟨k, hk, rfl, ho, hxr⟩ := hrel.out
      clear hrel
      by_cases hlt : k < la.length
      · have hia := HA.out.ext hxr
        have hpc := pow2_cast k
        have hp1 : pow2 k ≤ 16 := pow2_le k 4 (by omega)
        have hpl : pow2 k < 2 ^ 5 := Nat.lt_of_le_of_lt hp1 (by decide)
        have PL := Lib.hid hpl
        clear hpl
        have e0 : bits .or .i64 ((pow2 k : Nat) : Int) ((img la (pow2 k) : Nat) : Int) = ((stepN la (pow2 k) : Nat) : Int) := i64_orN _ _ (by omega) (Nat.lt_trans (img_lt SB.out _) (by decide))
        go_wp2_with (go_at_call 81; refine (image_c _ _ _ _ _ hia S1.out (by omega) (by omega)).mono ?_; rintro e w' ⟨rfl, rfl⟩)
        go_loop [7, 8] (fun s nx => Hid (∃ i : Nat, i ≤ iterN la (pow2 k) i ∧ s = .int .i64 (iterN la (pow2 k) i : Nat) ∧ nx = .int .i64 (iterN la (pow2 k) (i + 1) : Nat))) (fun s _ => 40 - (intOf s).toNat)
        case atStart => exact Lib.hid ⟨0, Nat.zero_le _, rfl, rfl⟩
        case round =>
          obtain ⟨i, hi, rfl, rfl⟩ := hrel.out
          clear hrel e0
          have l1 : iterN la (pow2 k) i < 32 := iterN_lt SB.out PL.out i
          have l2 : iterN la (pow2 k) (i + 1) < 32 := iterN_lt SB.out PL.out (i + 1)
          have hge : iterN la (pow2 k) i ≤ iterN la (pow2 k) (i + 1) := stepN_ge _ _
          by_cases hf : iterN la (pow2 k) (i + 1) = iterN la (pow2 k) i
          · have hb : (((iterN la (pow2 k) (i + 1) : Nat) : Int) != ((iterN la (pow2 k) i : Nat) : Int)) = false := by simp [hf]
            have HC := Lib.hid (clo_of_fix la (pow2 k) i (by omega) hf)
            clear hf
            go_wp2_with (at_builtin; refine append_int rfl _ _ _ rfl w.heap.size 3 Tryz.underlying23 infoInt _ (starTo la k) rfl ?ho _ (((iterN la (pow2 k) i : Nat) : Int)) rfl ?hc ?c1 ?c2 ?_)
            case ho => exact ho.ext (by (repeat (first | exact Ext.refl _ | assumption | refine Ext.alloc ?_ _ | refine Ext.drewN ?_ _ | refine Ext.drew ?_)))
            try (case hc => first | exact cell_new0 _ _ _ | simp)
            case c1 => rw [starTo_length]; omega
            case c2 => have := hxr.size; simp; omega
            intro v' w' ho' hg
            go_wp2
            go_roundw
            case rel => exact Lib.hid ⟨k + 1, by omega, by go_num, by rw [starTo_succ, HC.out]; exact ho', OwnI.grown (ho.ext (by (repeat (first | exact Ext.refl _ | assumption | refine Ext.alloc ?_ _ | refine Ext.drewN ?_ _ | refine Ext.drew ?_)))) (by (repeat (first | exact Ext.refl _ | assumption | refine Ext.alloc ?_ _ | refine Ext.drewN ?_ _ | refine Ext.drew ?_))) hg⟩
            case measure => simp [intOf]; omega
          · have hb : (((iterN la (pow2 k) (i + 1) : Nat) : Int) != ((iterN la (pow2 k) i : Nat) : Int)) = true := by
              rw [bne_iff_ne]; intro he; exact hf (by exact_mod_cast he)
            have l3 : img la (iterN la (pow2 k) (i + 1)) < 4294967296 := Nat.lt_trans (img_lt SB.out _) (by decide)
            have e1 : bits .or .i64 ((iterN la (pow2 k) (i + 1) : Nat) : Int) ((img la (iterN la (pow2 k) (i + 1)) : Nat) : Int) = ((iterN la (pow2 k) (i + 1 + 1) : Nat) : Int) := i64_orN _ _ (by omega) l3
            have hgt : iterN la (pow2 k) i < iterN la (pow2 k) (i + 1) := by omega
            clear hf
            go_wp2_with (go_at_call 81; refine (image_c _ _ _ _ _ hia S1.out (by omega) (by omega)).mono ?_; rintro e w' ⟨rfl, rfl⟩)
            go_round
            case rel => exact Lib.hid ⟨i + 1, by omega, rfl, rfl⟩
            case measure => simp [intOf]; omega
      · obtain rfl : k = la.length := by omega
        go_wp2
        go_ret
        exact ⟨_, rfl, ho, hxr⟩

theorem sRowsStar_c (n : Int) (a : Option Addr) (ca : Nat) (la : List Int) (w : World) (ha : IntsAt w a la) (hla : la.length ≤ 1048576) :
    Calls Tryz.prog 142 #[.int .i64 n, .slice a la.length ca] w (RetI 3 w (starF n la)) := by
  have HA := Lib.hid ha
  clear ha
  cases h1 : rvB n la
  · have hF : starF n la = [] := by simp [starF, h1]
    rw [hF]
    clear hF
    go_enter Tryz.func142, Tryz.ntmps142
    go_wp2
    go_loopw [5, 6] (fun v i wr => Hid (v = .slice (some ⟨w.heap.size, 0, none⟩) 0 0 ∧ i = .int .i64 0 ∧ OwnI wr w.heap.size 3 v [] ∧ Ext w wr)) (fun _ _ _ => 0)
    case atStart => exact Lib.hid ⟨rfl, rfl, OwnI.empty _ _, (Ext.refl w).alloc _⟩
    case round =>
      obtain ⟨rfl, rfl, ho, hx⟩ := hrel.out
      clear hrel
      by_cases hlt : 0 < la.length
      · go_wp2_with fail
        refine (sRowsValid_c n a ca la _ (HA.out.ext hx) (by omega)).mono ?_
        rintro e w1 ⟨rfl, m, rfl⟩
        go_wp2
        go_ret
        exact ⟨_, rfl, ho.ext (by (repeat (first | exact Ext.refl _ | assumption | refine Ext.alloc ?_ _ | refine Ext.drewN ?_ _ | refine Ext.drew ?_))), by (repeat (first | exact Ext.refl _ | assumption | refine Ext.alloc ?_ _ | refine Ext.drewN ?_ _ | refine Ext.drew ?_))⟩
      · have h0 : la.length = 0 := by omega
        go_wp2
        go_ret
        exact ⟨_, rfl, ho, hx⟩
  · have hF : starF n la = starTo la la.length := by simp [starF, h1]
    rw [hF]
    obtain ⟨s1, sb, -, l5⟩ := rvB_sets h1
    have sb' : ∀ i, i < la.length → natAt la i < 2 ^ 5 := fun i hi => Nat.lt_of_lt_of_le (sb i hi) (by
      have hn : n.toNat ≤ 5 := by have := rvB_len h1; omega
      exact Nat.pow_le_pow_right (by decide) hn)
    have S1 := Lib.hid s1
    have SB := Lib.hid sb'
    clear hF s1 sb sb'
    go_enter Tryz.func142, Tryz.ntmps142
    go_wp2
    go_loopw [5, 6] (fun v i wr => Hid (∃ k : Nat, k ≤ la.length ∧ i = .int .i64 k ∧ OwnI wr w.heap.size 3 v (starTo la k) ∧ Ext w wr)) (fun _ i _ => la.length - (intOf i).toNat)
    case atStart => exact Lib.hid ⟨0, Nat.zero_le _, rfl, OwnI.empty _ _, (Ext.refl w).alloc _⟩
    case round =>
      obtain ⟨k, hk, rfl, ho, hxr⟩ := hrel.out
      clear hrel
      by_cases hlt : k < la.length
      · have hia := HA.out.ext hxr
        have hpc := pow2_cast k
        have hp1 : pow2 k ≤ 16 := pow2_le k 4 (by omega)
        have hpl : pow2 k < 2 ^ 5 := Nat.lt_of_le_of_lt hp1 (by decide)
        have PL := Lib.hid hpl
        clear hpl
        go_wp2_with fail
        refine (sRowsValid_c n _ ca la _ hia (by omega)).mono ?_
        rintro e w1 ⟨rfl, m, rfl⟩
        go_wp2
        go_loop [7] (fun s => Hid (∃ i : Nat, i ≤ iterN la (pow2 k) i ∧ s = .int .i64 (iterN la (pow2 k) i : Nat))) (fun s => 40 - (intOf s).toNat)
        case atStart => exact Lib.hid ⟨0, Nat.zero_le _, rfl⟩
        case round =>
          obtain ⟨i, hi, rfl⟩ := hrel.out
          clear hrel
          have l1 : iterN la (pow2 k) i < 32 := iterN_lt SB.out PL.out i
          have l2 : iterN la (pow2 k) (i + 1) < 32 := iterN_lt SB.out PL.out (i + 1)
          have hge : iterN la (pow2 k) i ≤ iterN la (pow2 k) (i + 1) := stepN_ge _ _
          have l3 : img la (iterN la (pow2 k) i) < 4294967296 := Nat.lt_trans (img_lt SB.out _) (by decide)
          have he : orN (iterN la (pow2 k) i) (img la (iterN la (pow2 k) i)) = iterN la (pow2 k) (i + 1) := rfl
          by_cases hf : iterN la (pow2 k) (i + 1) = iterN la (pow2 k) i
          · have hb : (((iterN la (pow2 k) (i + 1) : Nat) : Int) != ((iterN la (pow2 k) i : Nat) : Int)) = false := by simp [hf]
            have HC := Lib.hid (clo_of_fix la (pow2 k) i (by omega) hf)
            clear hf
            go_wp2_with (first | (go_at_call 84; refine (l7Image_c _ _ _ _ _ (hia.ext (by (repeat (first | exact Ext.refl _ | assumption | refine Ext.alloc ?_ _ | refine Ext.drewN ?_ _ | refine Ext.drew ?_)))) S1.out (by omega) (by omega)).mono ?_; rintro e w' ⟨rfl, rfl⟩) | (go_at_call 122; refine (l1Either_c _ _ _ (by omega) l3).mono ?_; rintro e w' ⟨rfl, rfl⟩) | (at_builtin; refine append_int rfl _ _ _ rfl w.heap.size 3 Tryz.underlying23 infoInt _ (starTo la k) rfl ?ho _ (((iterN la (pow2 k) i : Nat) : Int)) rfl ?hc ?c1 ?c2 ?_))
            case ho => exact ho.ext (by (repeat (first | exact Ext.refl _ | assumption | refine Ext.alloc ?_ _ | refine Ext.drewN ?_ _ | refine Ext.drew ?_)))
            try (case hc => first | exact cell_new0 _ _ _ | simp)
            case c1 => rw [starTo_length]; omega
            case c2 => have := hxr.size; simp; omega
            intro v' w' ho' hg
            go_wp2
            go_roundw
            case rel => exact Lib.hid ⟨k + 1, by omega, by go_num, by rw [starTo_succ, HC.out]; exact ho', OwnI.grown (ho.ext (by (repeat (first | exact Ext.refl _ | assumption | refine Ext.alloc ?_ _ | refine Ext.drewN ?_ _ | refine Ext.drew ?_)))) (by (repeat (first | exact Ext.refl _ | assumption | refine Ext.alloc ?_ _ | refine Ext.drewN ?_ _ | refine Ext.drew ?_))) hg⟩
            case measure => simp [intOf]; omega
          · have hb : (((iterN la (pow2 k) (i + 1) : Nat) : Int) != ((iterN la (pow2 k) i : Nat) : Int)) = true := by
              rw [bne_iff_ne]; intro he; exact hf (by exact_mod_cast he)
            have hgt : iterN la (pow2 k) i < iterN la (pow2 k) (i + 1) := by omega
            clear hf
            go_wp2_with (first | (go_at_call 84; refine (l7Image_c _ _ _ _ _ (hia.ext (by (repeat (first | exact Ext.refl _ | assumption | refine Ext.alloc ?_ _ | refine Ext.drewN ?_ _ | refine Ext.drew ?_)))) S1.out (by omega) (by omega)).mono ?_; rintro e w' ⟨rfl, rfl⟩) | (go_at_call 122; refine (l1Either_c _ _ _ (by omega) l3).mono ?_; rintro e w' ⟨rfl, rfl⟩))
            go_round
            case rel => exact Lib.hid ⟨i + 1, by omega, rfl⟩
            case measure => simp [intOf]; omega
      · obtain rfl : k = la.length := by omega
        go_wp2
        go_ret
        exact ⟨_, rfl, ho, hxr⟩

theorem iRowsBack_c (n : Int) (a : Option Addr) (ca : Nat) (la : List Int) (w : World) (ha : IntsAt w a la) (hla : la.length ≤ 1048576) :
    Calls Tryz.prog 50 #[.int .i64 n, .slice a la.length ca] w (RetI 3 w (backF n la)) := by
  cases h1 : rvB n la
  · have hF : backF n la = [] := by simp [backF, h1]
    rw [hF]
    clear hF
    go_enter Tryz.func50, Tryz.ntmps50
    go_wp2_with fail
    refine (iRowsValid_c n a ca la w ha (by omega)).mono ?_
    rintro e w1 ⟨rfl, hx⟩
    go_wp2
    go_ret
    exact ⟨_, rfl, OwnI.nil _ _ _, hx⟩
  · have hF : backF n la = backTo la la.length := by simp [backF, h1]
    rw [hF]
    obtain ⟨s1, -, -, l5⟩ := rvB_sets h1
    obtain rfl : n = ((la.length : Nat) : Int) := (rvB_len h1).symm
    have S1 := Lib.hid s1
    obtain ⟨b1, o1, p1, q1⟩ := ha
    have P1 := Lib.hid p1
    have Q1 := Lib.hid q1
    have HA : Hid (IntsAt w a la) := ⟨b1, o1, p1, q1⟩
    obtain ⟨i0, hi, hz0, hz1, hz2⟩ := info_parts infoInt
    have Hi := Lib.hid hi
    have Hz0 := Lib.hid hz0
    have Hz1 := Lib.hid hz1
    have Hz2 := Lib.hid hz2
    clear hF s1 p1 q1 hi hz0 hz1 hz2
    go_enter Tryz.func50, Tryz.ntmps50
    go_wp2_with fail
    refine (iRowsValid_c _ a ca la w HA.out (by omega)).mono ?_
    rintro e w1 ⟨rfl, hx⟩
    go_wp2_with (at_make; refine wpList_make_full _ rfl _ _ _ rfl w.heap.size 3 i0 (.int .i64 0) 1 Tryz.underlying23 Hi.out Hz0.out Hz1.out _ _ _ _ la.length rfl rfl rfl rfl (by rw [Hz2.out]; omega) (by unfold maxLen; omega) hx.size ?_)
    intro w2 ho hg
    have hx2 := hx.trans (Ext.of_grown hg)
    have ho2 := own_made ho
    have hls := hx.size
    generalize hg1 : w1.heap.size = g1 at *
    have HG := Lib.hid hg1
    clear ho hg hx HA hg1
    go_wp2
    go_loopw [17] (fun i wr => Hid (∃ k : Nat, k ≤ la.length ∧ i = .int .i64 k ∧ OwnI wr w.heap.size 3 (.slice (some ⟨g1, 0, none⟩) la.length la.length) (backMix la la.length k 0) ∧ Ext w wr)) (fun i _ => la.length - (intOf i).toNat)
    case atStart => exact Lib.hid ⟨0, Nat.zero_le _, rfl, by rw [backMix_zero]; exact ho2, hx2⟩
    case round =>
      obtain ⟨k, hk, rfl, ho, hxr⟩ := hrel.out
      clear hrel ho2 hx2
      by_cases hlt : k < la.length
      · obtain ⟨rfl, hb1⟩ := P1.out (by omega)
        have hcw := Q1.out k hlt
        rw [S1.out.eq k hlt] at hcw
        have hc := hxr.cell' hcw hb1
        have hn := S1.out.lt k hlt
        have hpc := pow2_cast k
        have hp1 : pow2 k ≤ 16 := pow2_le k 4 (by omega)
        go_wp2
        obtain ⟨wo, rfl⟩ : ∃ wo : World, wo = wr := ⟨_, rfl⟩
        clear hc
        go_loopw [23] (fun j wr => Hid (∃ t : Nat, t ≤ la.length ∧ j = .int .i64 t ∧ OwnI wr w.heap.size 3 (.slice (some ⟨g1, 0, none⟩) la.length la.length) (backMix la la.length k t) ∧ Ext w wr)) (fun j _ => la.length - (intOf j).toNat)
        case atStart => exact Lib.hid ⟨0, Nat.zero_le _, rfl, ho, hxr⟩
        case round =>
          obtain ⟨t, ht, rfl, ho1, hxr1⟩ := hrel.out
          clear hrel
          by_cases hlt2 : t < la.length
          · have eb := i64_bit_eq (natAt la k) t (by omega)
            cases hbit : (natAt la k).testBit t
            · rw [hbit] at eb
              go_wp2
              go_roundw
              case rel => exact Lib.hid ⟨t + 1, by omega, by go_num, by rw [backMix_skip la la.length k t hbit]; exact ho1, hxr1⟩
              case measure => simp [intOf]; omega
            · rw [hbit] at eb
              have hml := Lib.hid (backMix_length la la.length k t)
              have ho2 : OwnI wr w.heap.size 3 (.slice (some ⟨g1, 0, none⟩) (backMix la la.length k t).length la.length) (backMix la la.length k t) := by rw [hml.out]; exact ho1
              obtain ⟨g, cap', hv, hB, hgs, hcell, hfz⟩ := ho2.row (by rw [hml.out]; omega)
              obtain ⟨rfl, -⟩ : g1 = g ∧ la.length = cap' := by simpa using hv
              have hc2 := hcell t (by rw [hml.out]; omega)
              rw [backMix_get la la.length k t t hlt2, if_neg (Nat.lt_irrefl t)] at hc2
              have hf2 := hfz t
              have hbl : backSet la t k < 32 := Nat.lt_of_lt_of_le (backSet_lt la t k) (Nat.pow_le_pow_right (by decide) (show k ≤ 5 by omega))
              have eo := i64_orN (backSet la t k) (pow2 k) (by omega) (by omega)
              have hset := Lib.hid (own_len (ho2.set t ((orN (backSet la t k) (pow2 k) : Nat) : Int)) (backMix_set la la.length k t hbit) (backMix_length la la.length k _))
              clear hv hcell hfz ho1 ho2
              go_wp2
              go_region
              go_wp2
              go_roundw
              case rel => exact Lib.hid ⟨t + 1, by omega, by go_num, hset.out.ext (by (repeat (first | exact Ext.refl _ | assumption | refine Ext.alloc ?_ _ | refine Ext.drewN ?_ _ | refine Ext.drew ?_))), (hxr1.setCell hB _).drew⟩
              case measure => simp [intOf]; omega
          · obtain rfl : t = la.length := by omega
            go_wp2
            go_roundw
            case rel => exact Lib.hid ⟨k + 1, by omega, by go_num, by rw [← backMix_next]; exact ho1, hxr1⟩
            case measure => simp [intOf]; omega
      · obtain rfl : k = la.length := by omega
        rw [backMix_end] at ho
        go_wp2
        go_ret
        exact ⟨_, rfl, ho, hxr⟩

theorem backF_len (n : Int) (a : List Int) : (backF n a).length ≤ 5 := by
  unfold backF
  split
  · rename_i h; rw [backTo_length]; exact (rvB_sets h).2.2.2
  · simp
theorem starF_len (n : Int) (a : List Int) : (starF n a).length ≤ 5 := by
  unfold starF
  split
  · rename_i h; rw [starTo_length]; exact (rvB_sets h).2.2.2
  · simp
theorem plusF_len (n : Int) (a b : List Int) : (plusF n a b).length ≤ 5 := by
  unfold plusF
  split
  · rename_i h; rw [plusTo_length]; exact (rvB_sets (Bool.and_eq_true_iff.1 h).1).2.2.2
  · simp
theorem thenF_len (n : Int) (a b : List Int) : (thenF n a b).length ≤ 5 := by
  unfold thenF
  split
  · rename_i h; rw [thenTo_length]; exact (rvB_sets (Bool.and_eq_true_iff.1 h).1).2.2.2
  · simp
end Go.Proofs.YtlaamecfknkmlaaGreat
