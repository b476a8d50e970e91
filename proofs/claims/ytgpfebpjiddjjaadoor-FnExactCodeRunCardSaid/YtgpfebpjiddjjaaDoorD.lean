/- Contracts: rows one or the other, one behind the other, again and again, and back. -/
import Derived.Test.YtgpfebpjiddjjaaDoorC
import Derived.StillTailTactics
namespace Go.Proofs.YtgpfebpjiddjjaaDoor
set_option linter.unusedVariables false
open Go.RowKit Go.Kt

theorem rvB_len {n : Int} {l : List Int} (h : rvB n l = true) : (l.length : Int) = n := by
  simp only [rvB, decide_eq_true_eq] at h; exact h.2.2.1
theorem rvB_sets {n : Int} {l : List Int} (h : rvB n l = true) : Sets l ∧ (∀ i, i < l.length → natAt l i < 2 ^ n.toNat) ∧ 1 ≤ l.length ∧ l.length ≤ 5 := by
  simp only [rvB, decide_eq_true_eq] at h
  obtain ⟨h1, h2, h3, h4⟩ := h
  have hb : ∀ i, i < l.length → 0 ≤ nth l i ∧ nth l i < 2 ^ n.toNat := fun i hi => h4 _ (nth_mem l i hi)
  have hp := pow_le_32 n.toNat (by omega)
  refine ⟨fun i hi => by have := hb i hi; omega, fun i hi => ?_, by omega, by omega⟩
  have := hb i hi
  unfold natAt
  have h5 : ((nth l i).toNat : Int) < ((2 ^ n.toNat : Nat) : Int) := by rw [Int.toNat_of_nonneg this.1]; simpa using this.2
  exact_mod_cast h5

/-- RowsPlus. -/
def plusF (n : Int) (a b : List Int) : List Int := if rvB n a && rvB n b then plusTo a b a.length else []

theorem iRowsPlus_c (n : Int) (a b : Option Addr) (ca cb : Nat) (la lb : List Int) (w : World) (ha : IntsAt w a la) (hb : IntsAt w b lb) (hla : la.length ≤ 1048576) (hlb : lb.length ≤ 1048576) :
    Calls Tryd.prog 75 #[.int .i64 n, .slice a la.length ca, .slice b lb.length cb] w (RetI 3 w (plusF n la lb)) := by
  cases h1 : rvB n la
  · have hF : plusF n la lb = [] := by simp [plusF, h1]
    rw [hF]
    clear hF
    go_enter Tryd.func75, Tryd.ntmps75
    go_wp2_with fail
    refine (iRowsValid_c n a ca la w ha (by omega)).mono ?_
    rintro e w1 ⟨rfl, hx⟩
    go_wp2
    go_ret
    exact ⟨_, rfl, OwnI.nil _ _ _, hx⟩
  · cases h2 : rvB n lb
    · have hF : plusF n la lb = [] := by simp [plusF, h2]
      rw [hF]
      clear hF
      go_enter Tryd.func75, Tryd.ntmps75
      go_wp2_with fail
      refine (iRowsValid_c n a ca la w ha (by omega)).mono ?_
      rintro e w1 ⟨rfl, hx⟩
      go_wp2_with fail
      refine (iRowsValid_c n b cb lb w1 (hb.ext hx) (by omega)).mono ?_
      rintro e w2 ⟨rfl, hx2⟩
      go_wp2
      go_ret
      exact ⟨_, rfl, OwnI.nil _ _ _, hx.trans hx2⟩
    · have hF : plusF n la lb = plusTo la lb la.length := by simp [plusF, h1, h2]
      rw [hF]
      obtain ⟨s1, -, -, l5⟩ := rvB_sets h1
      obtain ⟨s2, -, -, -⟩ := rvB_sets h2
      have hll : la.length = lb.length := by have := rvB_len h1; have := rvB_len h2; omega
      have HL := Lib.hid hll
      have S1 := Lib.hid s1
      have S2 := Lib.hid s2
      clear hF s1 s2 hll
      go_enter Tryd.func75, Tryd.ntmps75
      go_wp2_with fail
      refine (iRowsValid_c n a ca la w ha (by omega)).mono ?_
      rintro e w1 ⟨rfl, hx⟩
      go_wp2_with fail
      refine (iRowsValid_c n b cb lb w1 (hb.ext hx) (by omega)).mono ?_
      rintro e w2 ⟨rfl, hx2⟩
      have hx2 := hx.trans hx2
      obtain ⟨b1, o1, p1, q1⟩ := ha
      obtain ⟨b2, o2, p2, q2⟩ := hb
      have P1 := Lib.hid p1
      have Q1 := Lib.hid q1
      have P2 := Lib.hid p2
      have Q2 := Lib.hid q2
      clear p1 q1 p2 q2 hx
      go_wp2
      go_loopw [7, 22] (fun v i wr => Hid (∃ k : Nat, k ≤ la.length ∧ i = .int .i64 k ∧ OwnI wr w.heap.size 3 v (plusTo la lb k) ∧ Ext w wr)) (fun _ i _ => la.length - (intOf i).toNat)
      case atStart => exact Lib.hid ⟨0, Nat.zero_le _, rfl, OwnI.nil _ _ _, hx2⟩
      case round =>
        obtain ⟨k, hk, rfl, ho, hxr⟩ := hrel.out
        clear hrel
        by_cases hlt : k < la.length
        · obtain ⟨rfl, hb1⟩ := P1.out (by omega)
          obtain ⟨rfl, hb2⟩ := P2.out (by have := HL.out; omega)
          have hlt2 : k < lb.length := by have := HL.out; omega
          have hc1 := hxr.cell' (Q1.out k hlt) hb1
          have hc2 := hxr.cell' (Q2.out k hlt2) hb2
          rw [S1.out.eq k hlt] at hc1
          rw [S2.out.eq k hlt2] at hc2
          have e := i64_orN (natAt la k) (natAt lb k) (S1.out.lt k hlt) (S2.out.lt k hlt2)
          clear P1 Q1 P2 Q2
          go_wp2_with (at_builtin; refine append_int rfl _ _ _ rfl w.heap.size 3 Tryd.underlying41 infoInt _ _ rfl (ho.ext (Ext.alloc (Ext.refl wr) _)) _ _ rfl (cell_new0 _ _ _) ?c1 ?c2 ?_)
          case c1 => rw [plusTo_length]; omega
          case c2 => have := hxr.size; simp; omega
          intro v' w' ho' hg
          go_wp2
          go_roundw
          case rel => exact Lib.hid ⟨k + 1, by omega, by go_num, by rw [plusTo_succ]; exact ho', OwnI.grown (ho.ext (Ext.alloc (Ext.refl wr) _)) (hxr.alloc _) hg⟩
          case measure => simp [intOf]; omega
        · obtain rfl : k = la.length := by omega
          go_wp2
          go_ret
          exact ⟨_, rfl, ho, hxr⟩
/-- RowsThen. -/
def thenF (n : Int) (a b : List Int) : List Int := if rvB n a && rvB n b then thenTo a b a.length else []

theorem iRowsThen_c (n : Int) (a b : Option Addr) (ca cb : Nat) (la lb : List Int) (w : World) (ha : IntsAt w a la) (hb : IntsAt w b lb) (hla : la.length ≤ 1048576) (hlb : lb.length ≤ 1048576) :
    Calls Tryd.prog 74 #[.int .i64 n, .slice a la.length ca, .slice b lb.length cb] w (RetI 3 w (thenF n la lb)) := by
  cases h1 : rvB n la
  · have hF : thenF n la lb = [] := by simp [thenF, h1]
    rw [hF]
    clear hF
    go_enter Tryd.func74, Tryd.ntmps74
    go_wp2_with fail
    refine (iRowsValid_c n a ca la w ha (by omega)).mono ?_
    rintro e w1 ⟨rfl, hx⟩
    go_wp2
    go_ret
    exact ⟨_, rfl, OwnI.nil _ _ _, hx⟩
  · cases h2 : rvB n lb
    · have hF : thenF n la lb = [] := by simp [thenF, h2]
      rw [hF]
      clear hF
      go_enter Tryd.func74, Tryd.ntmps74
      go_wp2_with fail
      refine (iRowsValid_c n a ca la w ha (by omega)).mono ?_
      rintro e w1 ⟨rfl, hx⟩
      go_wp2_with fail
      refine (iRowsValid_c n b cb lb w1 (hb.ext hx) (by omega)).mono ?_
      rintro e w2 ⟨rfl, hx2⟩
      go_wp2
      go_ret
      exact ⟨_, rfl, OwnI.nil _ _ _, hx.trans hx2⟩
    · have hF : thenF n la lb = thenTo la lb la.length := by simp [thenF, h1, h2]
      rw [hF]
      obtain ⟨s1, -, -, l5⟩ := rvB_sets h1
      obtain ⟨s2, -, -, -⟩ := rvB_sets h2
      have hll : la.length = lb.length := by have := rvB_len h1; have := rvB_len h2; omega
      have HL := Lib.hid hll
      have S1 := Lib.hid s1
      have S2 := Lib.hid s2
      clear hF s1 s2 hll
      go_enter Tryd.func74, Tryd.ntmps74
      go_wp2_with fail
      refine (iRowsValid_c n a ca la w ha (by omega)).mono ?_
      rintro e w1 ⟨rfl, hx⟩
      go_wp2_with fail
      refine (iRowsValid_c n b cb lb w1 (hb.ext hx) (by omega)).mono ?_
      rintro e w2 ⟨rfl, hx2⟩
      have hx2 := hx.trans hx2
      obtain ⟨b1, o1, p1, q1⟩ := ha
      have HB := Lib.hid hb
      have P1 := Lib.hid p1
      have Q1 := Lib.hid q1
      clear p1 q1 hx hb
      go_wp2
      go_loopw [7, 22] (fun v i wr => Hid (∃ k : Nat, k ≤ la.length ∧ i = .int .i64 k ∧ OwnI wr w.heap.size 3 v (thenTo la lb k) ∧ Ext w wr)) (fun _ i _ => la.length - (intOf i).toNat)
      case atStart => exact Lib.hid ⟨0, Nat.zero_le _, rfl, OwnI.nil _ _ _, hx2⟩
      case round =>
        obtain ⟨k, hk, rfl, ho, hxr⟩ := hrel.out
        clear hrel
        by_cases hlt : k < la.length
        · obtain ⟨rfl, hb1⟩ := P1.out (by omega)
          have hc1 := hxr.cell' (Q1.out k hlt) hb1
          rw [S1.out.eq k hlt] at hc1
          have hib := HB.out.ext hxr
          clear P1 Q1
          go_wp2_with (first | (go_at_call 87; refine (image_c _ _ _ _ _ hib S2.out (by have := HL.out; omega) (S1.out.lt k hlt)).mono ?_; rintro e w' ⟨rfl, rfl⟩) | (at_builtin; refine append_int rfl _ _ _ rfl w.heap.size 3 Tryd.underlying41 infoInt _ (thenTo la lb k) rfl ?ho _ (((img lb (natAt la k) : Nat) : Int)) rfl ?hc ?c1 ?c2 ?_))
          case ho => exact ho.ext (by (repeat (first | exact Ext.refl _ | assumption | refine Ext.alloc ?_ _ | refine Ext.drewN ?_ _ | refine Ext.drew ?_)))
          case hc => first | exact cell_new0 _ _ _ | simp
          case c1 => rw [thenTo_length]; omega
          case c2 => have := hxr.size; simp; omega
          intro v' w' ho' hg
          go_wp2
          go_roundw
          case rel => exact Lib.hid ⟨k + 1, by omega, by go_num, by rw [thenTo_succ]; exact ho', OwnI.grown (ho.ext (by (repeat (first | exact Ext.refl _ | assumption | refine Ext.alloc ?_ _ | refine Ext.drewN ?_ _ | refine Ext.drew ?_)))) (by (repeat (first | exact Ext.refl _ | assumption | refine Ext.alloc ?_ _ | refine Ext.drewN ?_ _ | refine Ext.drew ?_))) hg⟩
          case measure => simp [intOf]; omega
        · obtain rfl : k = la.length := by omega
          go_wp2
          go_ret
          exact ⟨_, rfl, ho, hxr⟩

end Go.Proofs.YtgpfebpjiddjjaaDoor
