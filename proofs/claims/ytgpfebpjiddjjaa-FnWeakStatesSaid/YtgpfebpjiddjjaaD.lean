/- Contracts: rows one or the other, one behind the other, again and again, and back. -/
import Derived.Test.YtgpfebpjiddjjaaC
import Derived.StillTailTactics
namespace Go.Proofs.Ytgpfebpjiddjjaa
set_option linter.unusedVariables false
open Go.RowKit Go.Kt

theorem rvB_len {n : Int} {l : List Int} (h : rvB n l = true) : (l.length : Int) = n := by
  simp only [rvB, decide_eq_true_eq] at h; exact h.2.2.1
theorem rvB_sets {n : Int} {l : List Int} (h : rvB n l = true) : Sets l ∧ (∀ i, i < l.length → natAt l i < 2 ^ n.toNat) ∧ 1 ≤ l.length ∧ l.length ≤ 5 := by
  simp only [rvB, decide_eq_true_eq] at h
  obtain ⟨h1, h2, h3, h4⟩ := h
  have hb : ∀ i, i < l.length → 0 ≤ nth l i ∧ nth l i < 2 ^ n.toNat := fun i hi => h4 _ (nth_mem l i hi)
  have hp := pow_le_32 n.toNat (by omega)
  refine ⟨fun i hi => by have := hb i hi; omega, fun i hi => ?_, by omega, by omega⟩
  have := hb i hi
  unfold natAt
  have h5 : ((nth l i).toNat : Int) < ((2 ^ n.toNat : Nat) : Int) := by rw [Int.toNat_of_nonneg this.1]; simpa using this.2
  exact_mod_cast h5

/-- RowsPlus. -/
def plusF (n : Int) (a b : List Int) : List Int := if rvB n a && rvB n b then plusTo a b a.length else []

theorem iRowsPlus_c (n : Int) (a b : Option Addr) (ca cb : Nat) (la lb : List Int) (w : World) (ha : IntsAt w a la) (hb : IntsAt w b lb) (hla : la.length ≤ 1048576) (hlb : lb.length ≤ 1048576) :
    Calls Try.prog 71 #[.int .i64 n, .slice a la.length ca, .slice b lb.length cb] w (RetI 3 w (plusF n la lb)) := by
  cases h1 : rvB n la
  · have hF : plusF n la lb = [] := by simp [plusF, h1]
    rw [hF]
    clear hF
    go_enter Try.func71, Try.ntmps71
    go_wp2_with fail
    refine (iRowsValid_c n a ca la w ha (by omega)).mono ?_
    rintro e w1 ⟨rfl, hx⟩
    go_wp2
    go_ret
    exact ⟨_, rfl, OwnI.nil _ _ _, hx⟩
  · cases h2 : rvB n lb
    · have hF : plusF n la lb = [] := by simp [plusF, h2]
      rw [hF]
      clear hF
      go_enter Try.func71, Try.ntmps71
      go_wp2_with fail
      refine (iRowsValid_c n a ca la w ha (by omega)).mono ?_
      rintro e w1 ⟨rfl, hx⟩
      go_wp2_with fail
      refine (iRowsValid_c n b cb lb w1 (hb.ext hx) (by omega)).mono ?_
      rintro e w2 ⟨rfl, hx2⟩
      go_wp2
      go_ret
      exact ⟨_, rfl, OwnI.nil _ _ _, hx.trans hx2⟩
    · have hF : plusF n la lb = plusTo la lb la.length := by simp [plusF, h1, h2]
      rw [hF]
      obtain ⟨s1, -, -, l5⟩ := rvB_sets h1
      obtain ⟨s2, -, -, -⟩ := rvB_sets h2
      have hll : la.length = lb.length := by have := rvB_len h1; have := rvB_len h2; omega
      have HL := Lib.hid hll
      have S1 := Lib.hid s1
      have S2 := Lib.hid s2
      clear hF s1 s2 hll
      go_enter Try.func71, Try.ntmps71
      go_wp2_with fail
      refine (iRowsValid_c n a ca la w ha (by omega)).mono ?_
      rintro e w1 ⟨rfl, hx⟩
      go_wp2_with fail
      refine (iRowsValid_c n b cb lb w1 (hb.ext hx) (by omega)).mono ?_
      rintro e w2 ⟨rfl, hx2⟩
      have hx2 := hx.trans hx2
      obtain ⟨b1, o1, p1, q1⟩ := ha
      obtain ⟨b2, o2, p2, q2⟩ := hb
      have P1 := Lib.hid p1
      have Q1 := Lib.hid q1
      have P2 := Lib.hid p2
      have Q2 := Lib.hid q2
      clear p1 q1 p2 q2 hx
      go_wp2
      go_loopw [7, 22] (fun v i wr => Hid (∃ k : Nat, k ≤ la.length ∧ i = .int .i64 k ∧ OwnI wr w.heap.size 3 v (plusTo la lb k) ∧ Ext w wr)) (fun _ i _ => la.length - (intOf i).toNat)
      case atStart => exact Lib.hid ⟨0, Nat.zero_le _, rfl, OwnI.nil _ _ _, hx2⟩
      case round =>
        obtain ⟨k, hk, rfl, ho, hxr⟩ := hrel.out
        clear hrel
        by_cases hlt : k < la.length
        · obtain ⟨rfl, hb1⟩ := P1.out (by omega)
          obtain ⟨rfl, hb2⟩ := P2.out (by have := HL.out; omega)
          have hlt2 : k < lb.length := by have := HL.out; omega
          have hc1 := hxr.cell' (Q1.out k hlt) hb1
          have hc2 := hxr.cell' (Q2.out k hlt2) hb2
          rw [S1.out.eq k hlt] at hc1
          rw [S2.out.eq k hlt2] at hc2
          have e := i64_orN (natAt la k) (natAt lb k) (S1.out.lt k hlt) (S2.out.lt k hlt2)
          clear P1 Q1 P2 Q2
          go_wp2_with (at_builtin; refine append_int rfl _ _ _ rfl w.heap.size 3 Try.underlying25 infoInt _ _ rfl (ho.ext (Ext.alloc (Ext.refl wr) _)) _ _ rfl (cell_new0 _ _ _) ?c1 ?c2 ?_)
          case c1 => rw [plusTo_length]; omega
          case c2 => have := hxr.size; simp; omega
          intro v' w' ho' hg
          go_wp2
          go_roundw
          case rel => exact Lib.hid ⟨k + 1, by omega, by go_num, by rw [plusTo_succ]; exact ho', OwnI.grown (ho.ext (Ext.alloc (Ext.refl wr) _)) (hxr.alloc _) hg⟩
          case measure => simp [intOf]; omega
        · obtain rfl : k = la.length := by omega
          go_wp2
          go_ret
          exact ⟨_, rfl, ho, hxr⟩
/-- RowsThen. -/
def thenF (n : Int) (a b : List Int) : List Int := if rvB n a && rvB n b then thenTo a b a.length else []

theorem iRowsThen_c (n : Int) (a b : Option Addr) (ca cb : Nat) (la lb : List Int) (w : World) (ha : IntsAt w a la) (hb : IntsAt w b lb) (hla : la.length ≤ 1048576) (hlb : lb.length ≤ 1048576) :
    Calls Try.prog 44 #[.int .i64 n, .slice a la.length ca, .slice b lb.length cb] w (RetI 3 w (thenF n la lb)) := by
  cases h1 : rvB n la
  · have hF : thenF n la lb = [] := by simp [thenF, h1]
    rw [hF]
    clear hF
    go_enter Try.func44, Try.ntmps44
    go_wp2_with fail
    refine (iRowsValid_c n a ca la w ha (by omega)).mono ?_
    rintro e w1 ⟨rfl, hx⟩
    go_wp2
    go_ret
    exact ⟨_, rfl, OwnI.nil _ _ _, hx⟩
  · cases h2 : rvB n lb
    · have hF : thenF n la lb = [] := by simp [thenF, h2]
      rw [hF]
      clear hF
      go_enter Try.func44, Try.ntmps44
      go_wp2_with fail
      refine (iRowsValid_c n a ca la w ha (by omega)).mono ?_
      rintro e w1 ⟨rfl, hx⟩
      go_wp2_with fail
      refine (iRowsValid_c n b cb lb w1 (hb.ext hx) (by omega)).mono ?_
      rintro e w2 ⟨rfl, hx2⟩
      go_wp2
      go_ret
      exact ⟨_, rfl, OwnI.nil _ _ _, hx.trans hx2⟩
    · have hF : thenF n la lb = thenTo la lb la.length := by simp [thenF, h1, h2]
      rw [hF]
      obtain ⟨s1, -, -, l5⟩ := rvB_sets h1
      obtain ⟨s2, -, -, -⟩ := rvB_sets h2
      have hll : la.length = lb.length := by have := rvB_len h1; have := rvB_len h2; omega
      have HL := Lib.hid hll
      have S1 := Lib.hid s1
      have S2 := Lib.hid s2
      clear hF s1 s2 hll
      go_enter Try.func44, Try.ntmps44
      go_wp2_with fail
      refine (iRowsValid_c n a ca la w ha (by omega)).mono ?_
      rintro e w1 ⟨rfl, hx⟩
      go_wp2_with fail
      refine (iRowsValid_c n b cb lb w1 (hb.ext hx) (by omega)).mono ?_
      rintro e w2 ⟨rfl, hx2⟩
      have hx2 := hx.trans hx2
      obtain ⟨b1, o1, p1, q1⟩ := ha
      have HB := Lib.hid hb
      have P1 := Lib.hid p1
      have Q1 := Lib.hid q1
      clear p1 q1 hx hb
      go_wp2
      go_loopw [7, 22] (fun v i wr => Hid (∃ k : Nat, k ≤ la.length ∧ i = .int .i64 k ∧ OwnI wr w.heap.size 3 v (thenTo la lb k) ∧ Ext w wr)) (fun _ i _ => la.length - (intOf i).toNat)
      case atStart => exact Lib.hid ⟨0, Nat.zero_le _, rfl, OwnI.nil _ _ _, hx2⟩
      case round =>
        obtain ⟨k, hk, rfl, ho, hxr⟩ := hrel.out
        clear hrel
        by_cases hlt : k < la.length
        · obtain ⟨rfl, hb1⟩ := P1.out (by omega)
          have hc1 := hxr.cell' (Q1.out k hlt) hb1
          rw [S1.out.eq k hlt] at hc1
          have hib := HB.out.ext hxr
          clear P1 Q1
          go_wp2_with (first | (go_at_call 47; refine (image_c _ _ _ _ _ hib S2.out (by have := HL.out; omega) (S1.out.lt k hlt)).mono ?_; rintro e w' ⟨rfl, rfl⟩) | (at_builtin; refine append_int rfl _ _ _ rfl w.heap.size 3 Try.underlying25 infoInt _ (thenTo la lb k) rfl ?ho _ (((img lb (natAt la k) : Nat) : Int)) rfl ?hc ?c1 ?c2 ?_))
          case ho => exact ho.ext (by (repeat (first | exact Ext.refl _ | assumption | refine Ext.alloc ?_ _ | refine Ext.drewN ?_ _ | refine Ext.drew ?_)))
          case hc => first | exact cell_new0 _ _ _ | simp
          case c1 => rw [thenTo_length]; omega
          case c2 => have := hxr.size; simp; omega
          intro v' w' ho' hg
          go_wp2
          go_roundw
          case rel => exact Lib.hid ⟨k + 1, by omega, by go_num, by rw [thenTo_succ]; exact ho', OwnI.grown (ho.ext (by (repeat (first | exact Ext.refl _ | assumption | refine Ext.alloc ?_ _ | refine Ext.drewN ?_ _ | refine Ext.drew ?_)))) (by (repeat (first | exact Ext.refl _ | assumption | refine Ext.alloc ?_ _ | refine Ext.drewN ?_ _ | refine Ext.drew ?_))) hg⟩
          case measure => simp [intOf]; omega
        · obtain rfl : k = la.length := by omega
          go_wp2
          go_ret
          exact ⟨_, rfl, ho, hxr⟩

theorem sRowsThen_c (n : Int) (a b : Option Addr) (ca cb : Nat) (la lb : List Int) (w : World) (ha : IntsAt w a la) (hb : IntsAt w b lb) (hla : la.length ≤ 1048576) (hlb : lb.length ≤ 1048576) :
    Calls Try.prog 41 #[.int .i64 n, .slice a la.length ca, .slice b lb.length cb] w (RetI 3 w (thenF n la lb)) := by
  have HA := Lib.hid ha
  have HB := Lib.hid hb
  clear ha hb
  cases h1 : rvB n la
  · have hF : thenF n la lb = [] := by simp [thenF, h1]
    rw [hF]
    clear hF
    go_enter Try.func41, Try.ntmps41
    go_wp2
    go_loopw [7, 8] (fun v i wr => Hid (v = .slice (some ⟨w.heap.size, 0, none⟩) 0 0 ∧ i = .int .i64 0 ∧ OwnI wr w.heap.size 3 v [] ∧ Ext w wr)) (fun _ _ _ => 0)
    case atStart => exact Lib.hid ⟨rfl, rfl, OwnI.empty _ _, (Ext.refl w).alloc _⟩
    case round =>
      obtain ⟨rfl, rfl, ho, hx⟩ := hrel.out
      clear hrel
      by_cases hlt : 0 < la.length
      · go_wp2_with fail
        refine (sRowsValid_c n a ca la _ (HA.out.ext hx) (by omega)).mono ?_
        rintro e w1 ⟨rfl, m, rfl⟩
        go_wp2
        go_ret
        exact ⟨_, rfl, ho.ext (by (repeat (first | exact Ext.refl _ | assumption | refine Ext.alloc ?_ _ | refine Ext.drewN ?_ _ | refine Ext.drew ?_))), by (repeat (first | exact Ext.refl _ | assumption | refine Ext.alloc ?_ _ | refine Ext.drewN ?_ _ | refine Ext.drew ?_))⟩
      · have h0 : la.length = 0 := by omega
        go_wp2
        go_ret
        exact ⟨_, rfl, ho, hx⟩
  · cases h2 : rvB n lb
    · have hF : thenF n la lb = [] := by simp [thenF, h2]
      rw [hF]
      clear hF
      go_enter Try.func41, Try.ntmps41
      go_wp2
      go_loopw [7, 8] (fun v i wr => Hid (v = .slice (some ⟨w.heap.size, 0, none⟩) 0 0 ∧ i = .int .i64 0 ∧ OwnI wr w.heap.size 3 v [] ∧ Ext w wr)) (fun _ _ _ => 0)
      case atStart => exact Lib.hid ⟨rfl, rfl, OwnI.empty _ _, (Ext.refl w).alloc _⟩
      case round =>
        obtain ⟨rfl, rfl, ho, hx⟩ := hrel.out
        clear hrel
        by_cases hlt : 0 < la.length
        · go_wp2_with fail
          refine (sRowsValid_c n a ca la _ (HA.out.ext hx) (by omega)).mono ?_
          rintro e w1 ⟨rfl, m, rfl⟩
          go_wp2_with fail
          refine (sRowsValid_c n b cb lb _ (HB.out.ext (by (repeat (first | exact Ext.refl _ | assumption | refine Ext.alloc ?_ _ | refine Ext.drewN ?_ _ | refine Ext.drew ?_)))) (by omega)).mono ?_
          rintro e w1 ⟨rfl, m', rfl⟩
          go_wp2
          go_ret
          exact ⟨_, rfl, ho.ext (by (repeat (first | exact Ext.refl _ | assumption | refine Ext.alloc ?_ _ | refine Ext.drewN ?_ _ | refine Ext.drew ?_))), by (repeat (first | exact Ext.refl _ | assumption | refine Ext.alloc ?_ _ | refine Ext.drewN ?_ _ | refine Ext.drew ?_))⟩
        · have h0 : la.length = 0 := by omega
          go_wp2
          go_ret
          exact ⟨_, rfl, ho, hx⟩
    · have hF : thenF n la lb = thenTo la lb la.length := by simp [thenF, h1, h2]
      rw [hF]
      obtain ⟨s1, -, -, l5⟩ := rvB_sets h1
      obtain ⟨s2, -, -, -⟩ := rvB_sets h2
      have hll : la.length = lb.length := by have := rvB_len h1; have := rvB_len h2; omega
      have HL := Lib.hid hll
      have S1 := Lib.hid s1
      have S2 := Lib.hid s2
      obtain ⟨b1, o1, p1, q1⟩ := HA.out
      have P1 := Lib.hid p1
      have Q1 := Lib.hid q1
      clear hF s1 s2 hll p1 q1
      go_enter Try.func41, Try.ntmps41
      go_wp2
      go_loopw [7, 8] (fun v i wr => Hid (∃ k : Nat, k ≤ la.length ∧ i = .int .i64 k ∧ OwnI wr w.heap.size 3 v (thenTo la lb k) ∧ Ext w wr)) (fun _ i _ => la.length - (intOf i).toNat)
      case atStart => exact Lib.hid ⟨0, Nat.zero_le _, rfl, OwnI.empty _ _, (Ext.refl w).alloc _⟩
      case round =>
        obtain ⟨k, hk, rfl, ho, hxr⟩ := hrel.out
        clear hrel
        by_cases hlt : k < la.length
        · have hia := HA.out.ext hxr
          have hib := HB.out.ext hxr
          obtain ⟨rfl, hb1⟩ := P1.out (by omega)
          have hc1 := hxr.cell' (Q1.out k hlt) hb1
          rw [S1.out.eq k hlt] at hc1
          clear P1 Q1 HA HB
          go_wp2_with fail
          refine (sRowsValid_c n _ ca la _ hia (by omega)).mono ?_
          rintro e w1 ⟨rfl, m, rfl⟩
          go_wp2_with fail
          refine (sRowsValid_c n b cb lb _ (hib.ext (by (repeat (first | exact Ext.refl _ | assumption | refine Ext.alloc ?_ _ | refine Ext.drewN ?_ _ | refine Ext.drew ?_)))) (by omega)).mono ?_
          rintro e w1 ⟨rfl, m', rfl⟩
          go_wp2_with (first | (go_at_call 46; refine (l7Image_c _ _ _ _ _ (hib.ext (by (repeat (first | exact Ext.refl _ | assumption | refine Ext.alloc ?_ _ | refine Ext.drewN ?_ _ | refine Ext.drew ?_)))) S2.out (by have := HL.out; omega) (S1.out.lt k hlt)).mono ?_; rintro e w' ⟨rfl, rfl⟩) | (at_builtin; refine append_int rfl _ _ _ rfl w.heap.size 3 Try.underlying25 infoInt _ (thenTo la lb k) rfl ?ho _ (((img lb (natAt la k) : Nat) : Int)) rfl ?hc ?c1 ?c2 ?_))
          case ho => exact ho.ext (by (repeat (first | exact Ext.refl _ | assumption | refine Ext.alloc ?_ _ | refine Ext.drewN ?_ _ | refine Ext.drew ?_)))
          case hc => first | exact cell_new0 _ _ _ | simp
          case c1 => rw [thenTo_length]; omega
          case c2 => have := hxr.size; simp; omega
          intro v' w' ho' hg
          go_wp2
          go_roundw
          case rel => exact Lib.hid ⟨k + 1, by omega, by go_num, by rw [thenTo_succ]; exact ho', OwnI.grown (ho.ext (by (repeat (first | exact Ext.refl _ | assumption | refine Ext.alloc ?_ _ | refine Ext.drewN ?_ _ | refine Ext.drew ?_)))) (by (repeat (first | exact Ext.refl _ | assumption | refine Ext.alloc ?_ _ | refine Ext.drewN ?_ _ | refine Ext.drew ?_))) hg⟩
          case measure => simp [intOf]; omega
        · obtain rfl : k = la.length := by omega
          go_wp2
          go_ret
          exact ⟨_, rfl, ho, hxr⟩

set_option maxRecDepth 100000 in
theorem sRowsPlus_c (n : Int) (a b : Option Addr) (ca cb : Nat) (la lb : List Int) (w : World) (ha : IntsAt w a la) (hb : IntsAt w b lb) (hla : la.length ≤ 1048576) (hlb : lb.length ≤ 1048576) :
    Calls Try.prog 68 #[.int .i64 n, .slice a la.length ca, .slice b lb.length cb] w (RetI 3 w (plusF n la lb)) := by
  have HA := Lib.hid ha
  have HB := Lib.hid hb
  clear ha hb
  cases h1 : rvB n la
  · have hF : plusF n la lb = [] := by simp [plusF, h1]
    rw [hF]
    clear hF
    go_enter Try.func68, Try.ntmps68
    go_wp2
    go_loopw [7, 8] (fun v i wr => Hid (v = .slice (some ⟨w.heap.size, 0, none⟩) 0 0 ∧ i = .int .i64 0 ∧ OwnI wr w.heap.size 3 v [] ∧ Ext w wr)) (fun _ _ _ => 0)
    case atStart => exact Lib.hid ⟨rfl, rfl, OwnI.empty _ _, (Ext.refl w).alloc _⟩
    case round =>
      obtain ⟨rfl, rfl, ho, hx⟩ := hrel.out
      clear hrel
      by_cases hlt : 0 < la.length
      · go_wp2_with fail
        refine (sRowsValid_c n a ca la _ (HA.out.ext hx) (by omega)).mono ?_
        rintro e w1 ⟨rfl, m, rfl⟩
        go_wp2
        go_ret
        exact ⟨_, rfl, ho.ext (by (repeat (first | exact Ext.refl _ | assumption | refine Ext.alloc ?_ _ | refine Ext.drewN ?_ _ | refine Ext.drew ?_))), by (repeat (first | exact Ext.refl _ | assumption | refine Ext.alloc ?_ _ | refine Ext.drewN ?_ _ | refine Ext.drew ?_))⟩
      · have h0 : la.length = 0 := by omega
        go_wp2
        go_ret
        exact ⟨_, rfl, ho, hx⟩
  · cases h2 : rvB n lb
    · have hF : plusF n la lb = [] := by simp [plusF, h2]
      rw [hF]
      clear hF
      go_enter Try.func68, Try.ntmps68
      go_wp2
      go_loopw [7, 8] (fun v i wr => Hid (v = .slice (some ⟨w.heap.size, 0, none⟩) 0 0 ∧ i = .int .i64 0 ∧ OwnI wr w.heap.size 3 v [] ∧ Ext w wr)) (fun _ _ _ => 0)
      case atStart => exact Lib.hid ⟨rfl, rfl, OwnI.empty _ _, (Ext.refl w).alloc _⟩
      case round =>
        obtain ⟨rfl, rfl, ho, hx⟩ := hrel.out
        clear hrel
        by_cases hlt : 0 < la.length
        · go_wp2_with fail
          refine (sRowsValid_c n a ca la _ (HA.out.ext hx) (by omega)).mono ?_
          rintro e w1 ⟨rfl, m, rfl⟩
          go_wp2_with fail
          refine (sRowsValid_c n b cb lb _ (HB.out.ext (by (repeat (first | exact Ext.refl _ | assumption | refine Ext.alloc ?_ _ | refine Ext.drewN ?_ _ | refine Ext.drew ?_)))) (by omega)).mono ?_
          rintro e w1 ⟨rfl, m', rfl⟩
          go_wp2
          go_ret
          exact ⟨_, rfl, ho.ext (by (repeat (first | exact Ext.refl _ | assumption | refine Ext.alloc ?_ _ | refine Ext.drewN ?_ _ | refine Ext.drew ?_))), by (repeat (first | exact Ext.refl _ | assumption | refine Ext.alloc ?_ _ | refine Ext.drewN ?_ _ | refine Ext.drew ?_))⟩
        · have h0 : la.length = 0 := by omega
          go_wp2
          go_ret
          exact ⟨_, rfl, ho, hx⟩
    · have hF : plusF n la lb = plusTo la lb la.length := by simp [plusF, h1, h2]
      rw [hF]
      obtain ⟨s1, -, -, l5⟩ := rvB_sets h1
      obtain ⟨s2, -, -, -⟩ := rvB_sets h2
      have hll : la.length = lb.length := by have := rvB_len h1; have := rvB_len h2; omega
      have HL := Lib.hid hll
      have S1 := Lib.hid s1
      have S2 := Lib.hid s2
      obtain ⟨b1, o1, p1, q1⟩ := HA.out
      have P1 := Lib.hid p1
      have Q1 := Lib.hid q1
      clear hF s1 s2 hll p1 q1
      go_enter Try.func68, Try.ntmps68
      go_wp2
      go_loopw [7, 8] (fun v i wr => Hid (∃ k : Nat, k ≤ la.length ∧ i = .int .i64 k ∧ OwnI wr w.heap.size 3 v (plusTo la lb k) ∧ Ext w wr)) (fun _ i _ => la.length - (intOf i).toNat)
      case atStart => exact Lib.hid ⟨0, Nat.zero_le _, rfl, OwnI.empty _ _, (Ext.refl w).alloc _⟩
      case round =>
        obtain ⟨k, hk, rfl, ho, hxr⟩ := hrel.out
        clear hrel
        by_cases hlt : k < la.length
        · have hia := HA.out.ext hxr
          have hib := HB.out.ext hxr
          obtain ⟨b2, o2, p2, q2⟩ := HB.out
          obtain ⟨rfl, hb1⟩ := P1.out (by omega)
          have hcw1 := Q1.out k hlt
          have hlt2 : k < lb.length := by have := HL.out; omega
          obtain ⟨rfl, hb2⟩ := p2 (by omega)
          have hcw2 := q2 k hlt2
          rw [S1.out.eq k hlt] at hcw1
          rw [S2.out.eq k hlt2] at hcw2
          have hc1 := hxr.cell' hcw1 hb1
          have hc2 := hxr.cell' hcw2 hb2
          have HW1 := Lib.hid hcw1
          have HW2 := Lib.hid hcw2
          clear hcw1 hcw2
          clear P1 Q1 HA HB p2 q2
          go_wp2_with fail
          refine (sRowsValid_c n _ ca la _ hia (by omega)).mono ?_
          rintro e w1 ⟨rfl, m, rfl⟩
          go_wp2_with fail
          refine (sRowsValid_c n _ cb lb _ (hib.ext (by (repeat (first | exact Ext.refl _ | assumption | refine Ext.alloc ?_ _ | refine Ext.drewN ?_ _ | refine Ext.drew ?_)))) (by omega)).mono ?_
          rintro e w1 ⟨rfl, m', rfl⟩
          go_wp2
          have hlo := S1.out.lt k hlt
          have hlo2 := S2.out.lt k hlt2
          go_region_held3 (fun w' => w'.cell? ⟨b1, o1 + k, none⟩ = some (.int .i64 ((natAt la k : Nat) : Int)) ∧ w'.cell? ⟨b2, o2 + k, none⟩ = some (.int .i64 ((natAt lb k : Nat) : Int)))
            (first
              | go_keep
              | (have hE := OwnI.grown (w0 := w) (ho.ext (by (repeat (first | exact Ext.refl _ | assumption | refine Ext.alloc ?_ _ | refine Ext.drewN ?_ _ | refine Ext.drew ?_)))) (by (repeat (first | exact Ext.refl _ | assumption | refine Ext.alloc ?_ _ | refine Ext.drewN ?_ _ | refine Ext.drew ?_))) hg
                 exact ⟨hE.cell' HW1.out hb1, hE.cell' HW2.out hb2⟩))
            ((first
              | (go_at_call 55; refine (l1Either_c _ _ _ hlo hlo2).mono ?_; rintro e w' ⟨rfl, rfl⟩)
              | (refine step_append_int rfl _ _ _ rfl w.heap.size 3 Try.underlying25 infoInt _ (plusTo la lb k) rfl (ho.ext (by (repeat (first | exact Ext.refl _ | assumption | refine Ext.alloc ?_ _ | refine Ext.drewN ?_ _ | refine Ext.drew ?_)))) _ ((orN (natAt la k) (natAt lb k) : Nat) : Int) rfl (by first | exact cell_new0 _ _ _ | simp) (by rw [plusTo_length]; omega) (by have := hxr.size; simp; omega) ?_; intro v' w' ho' hg)))
          go_wp2
          go_roundw
          case rel => exact Lib.hid ⟨k + 1, by omega, by go_num, by rw [plusTo_succ]; exact ho', OwnI.grown (ho.ext (by (repeat (first | exact Ext.refl _ | assumption | refine Ext.alloc ?_ _ | refine Ext.drewN ?_ _ | refine Ext.drew ?_)))) (by (repeat (first | exact Ext.refl _ | assumption | refine Ext.alloc ?_ _ | refine Ext.drewN ?_ _ | refine Ext.drew ?_))) hg⟩
          case measure => simp [intOf]; omega
        · obtain rfl : k = la.length := by omega
          go_wp2
          go_ret
          exact ⟨_, rfl, ho, hxr⟩
end Go.Proofs.Ytgpfebpjiddjjaa
