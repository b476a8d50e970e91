/- Merged texts: contracts and plain lemmas (D, E, G). -/
import Derived.Test.YtlaamecfknkmlaaDoorMh3
import Derived.StillTailTactics
import Derived.RegionTactic
/- Contracts: rows one or the other, one behind the other, again and again, and back. -/
namespace Go.Proofs.YtlaamecfknkmlaaDoor
set_option linter.unusedVariables false
open Go.RowKit Go.Kt

theorem rvB_len {n : Int} {l : List Int} (h : rvB n l = true) : (l.length : Int) = n := by
  simp only [rvB, decide_eq_true_eq] at h; exact h.2.2.1
theorem rvB_sets {n : Int} {l : List Int} (h : rvB n l = true) : Sets l ∧ (∀ i, i < l.length → natAt l i < 2 ^ n.toNat) ∧ 1 ≤ l.length ∧ l.length ≤ 5 := by
  simp only [rvB, decide_eq_true_eq] at h
  obtain ⟨h1, h2, h3, h4⟩ := h
  have hb : ∀ i, i < l.length → 0 ≤ nth l i ∧ nth l i < 2 ^ n.toNat := fun i hi => h4 _ (nth_mem l i hi)
  have hp := pow_le_32 n.toNat (by omega)
  refine ⟨fun i hi => by have := hb i hi; omega, fun i hi => ?_, by omega, by omega⟩
  have := hb i hi
  unfold natAt
  have h5 : ((nth l i).toNat : Int) < ((2 ^ n.toNat : Nat) : Int) := by rw [Int.toNat_of_nonneg this.1]; simpa using this.2
  exact_mod_cast h5

/-- RowsPlus. -/
def plusF (n : Int) (a b : List Int) : List Int := if rvB n a && rvB n b then plusTo a b a.length else []

theorem iRowsPlus_c (n : Int) (a b : Option Addr) (ca cb : Nat) (la lb : List Int) (w : World) (ha : IntsAt w a la) (hb : IntsAt w b lb) (hla : la.length ≤ 1048576) (hlb : lb.length ≤ 1048576) :
    Calls Tryd.prog 56 #[.int .i64 n, .slice a la.length ca, .slice b lb.length cb] w (RetI 3 w (plusF n la lb)) := by
  cases h1 : rvB n la
  · have hF : plusF n la lb = [] := by simp [plusF, h1]
    rw [hF]
    clear hF
    go_enter Tryd.func56, Tryd.ntmps56
    go_wp2_with fail
    refine (iRowsValid_c n a ca la w ha (by omega)).mono ?_
    rintro e w1 ⟨rfl, hx⟩
    go_wp2
    go_ret
    exact ⟨_, rfl, OwnI.nil _ _ _, hx⟩
  · cases h2 : rvB n lb
    · have hF : plusF n la lb = [] := by simp [plusF, h2]
      rw [hF]
      clear hF
      go_enter Tryd.func56, Tryd.ntmps56
      go_wp2_with fail
      refine (iRowsValid_c n a ca la w ha (by omega)).mono ?_
      rintro e w1 ⟨rfl, hx⟩
      go_wp2_with fail
      refine (iRowsValid_c n b cb lb w1 (hb.ext hx) (by omega)).mono ?_
      rintro e w2 ⟨rfl, hx2⟩
      go_wp2
      go_ret
      exact ⟨_, rfl, OwnI.nil _ _ _, hx.trans hx2⟩
    · have hF : plusF n la lb = plusTo la lb la.length := by simp [plusF, h1, h2]
      rw [hF]
      obtain ⟨s1, -, -, l5⟩ := rvB_sets h1
      obtain ⟨s2, -, -, -⟩ := rvB_sets h2
      have hll : la.length = lb.length := by have := rvB_len h1; have := rvB_len h2; omega
      have HL := Lib.hid hll
      have S1 := Lib.hid s1
      have S2 := Lib.hid s2
      clear hF s1 s2 hll
      go_enter Tryd.func56, Tryd.ntmps56
      go_wp2_with fail
      refine (iRowsValid_c n a ca la w ha (by omega)).mono ?_
      rintro e w1 ⟨rfl, hx⟩
      go_wp2_with fail
      refine (iRowsValid_c n b cb lb w1 (hb.ext hx) (by omega)).mono ?_
      rintro e w2 ⟨rfl, hx2⟩
      have hx2 := hx.trans hx2
      obtain ⟨b1, o1, p1, q1⟩ := ha
      obtain ⟨b2, o2, p2, q2⟩ := hb
      have P1 := Lib.hid p1
      have Q1 := Lib.hid q1
      have P2 := Lib.hid p2
      have Q2 := Lib.hid q2
      clear p1 q1 p2 q2 hx
      go_wp2
      go_loopw [7, 22] (fun v i wr => Hid (∃ k : Nat, k ≤ la.length ∧ i = .int .i64 k ∧ OwnI wr w.heap.size 3 v (plusTo la lb k) ∧ Ext w wr)) (fun _ i _ => la.length - (intOf i).toNat)
      case atStart => exact Lib.hid ⟨0, Nat.zero_le _, rfl, OwnI.nil _ _ _, hx2⟩
      case round =>
        obtain ⟨k, hk, rfl, ho, hxr⟩ := hrel.out
        clear hrel
        by_cases hlt : k < la.length
        · obtain ⟨rfl, hb1⟩ := P1.out (by omega)
          obtain ⟨rfl, hb2⟩ := P2.out (by have := HL.out; omega)
          have hlt2 : k < lb.length := by have := HL.out; omega
          have hc1 := hxr.cell' (Q1.out k hlt) hb1
          have hc2 := hxr.cell' (Q2.out k hlt2) hb2
          rw [S1.out.eq k hlt] at hc1
          rw [S2.out.eq k hlt2] at hc2
          have e := i64_orN (natAt la k) (natAt lb k) (S1.out.lt k hlt) (S2.out.lt k hlt2)
          clear P1 Q1 P2 Q2
          go_wp2_with (at_builtin; refine append_int rfl _ _ _ rfl w.heap.size 3 Tryd.underlying29 infoInt _ _ rfl (ho.ext (Ext.alloc (Ext.refl wr) _)) _ _ rfl (cell_new0 _ _ _) ?c1 ?c2 ?_)
          case c1 => rw [plusTo_length]; omega
          case c2 => have := hxr.size; simp; omega
          intro v' w' ho' hg
          go_wp2
          go_roundw
          case rel => exact Lib.hid ⟨k + 1, by omega, by go_num, by rw [plusTo_succ]; exact ho', OwnI.grown (ho.ext (Ext.alloc (Ext.refl wr) _)) (hxr.alloc _) hg⟩
          case measure => simp [intOf]; omega
        · obtain rfl : k = la.length := by omega
          go_wp2
          go_ret
          exact ⟨_, rfl, ho, hxr⟩
/-- RowsThen. -/
def thenF (n : Int) (a b : List Int) : List Int := if rvB n a && rvB n b then thenTo a b a.length else []

theorem iRowsThen_c (n : Int) (a b : Option Addr) (ca cb : Nat) (la lb : List Int) (w : World) (ha : IntsAt w a la) (hb : IntsAt w b lb) (hla : la.length ≤ 1048576) (hlb : lb.length ≤ 1048576) :
    Calls Tryd.prog 55 #[.int .i64 n, .slice a la.length ca, .slice b lb.length cb] w (RetI 3 w (thenF n la lb)) := by
  cases h1 : rvB n la
  · have hF : thenF n la lb = [] := by simp [thenF, h1]
    rw [hF]
    clear hF
    go_enter Tryd.func55, Tryd.ntmps55
    go_wp2_with fail
    refine (iRowsValid_c n a ca la w ha (by omega)).mono ?_
    rintro e w1 ⟨rfl, hx⟩
    go_wp2
    go_ret
    exact ⟨_, rfl, OwnI.nil _ _ _, hx⟩
  · cases h2 : rvB n lb
    · have hF : thenF n la lb = [] := by simp [thenF, h2]
      rw [hF]
      clear hF
      go_enter Tryd.func55, Tryd.ntmps55
      go_wp2_with fail
      refine (iRowsValid_c n a ca la w ha (by omega)).mono ?_
      rintro e w1 ⟨rfl, hx⟩
      go_wp2_with fail
      refine (iRowsValid_c n b cb lb w1 (hb.ext hx) (by omega)).mono ?_
      rintro e w2 ⟨rfl, hx2⟩
      go_wp2
      go_ret
      exact ⟨_, rfl, OwnI.nil _ _ _, hx.trans hx2⟩
    · have hF : thenF n la lb = thenTo la lb la.length := by simp [thenF, h1, h2]
      rw [hF]
      obtain ⟨s1, -, -, l5⟩ := rvB_sets h1
      obtain ⟨s2, -, -, -⟩ := rvB_sets h2
      have hll : la.length = lb.length := by have := rvB_len h1; have := rvB_len h2; omega
      have HL := Lib.hid hll
      have S1 := Lib.hid s1
      have S2 := Lib.hid s2
      clear hF s1 s2 hll
      go_enter Tryd.func55, Tryd.ntmps55
      go_wp2_with fail
      refine (iRowsValid_c n a ca la w ha (by omega)).mono ?_
      rintro e w1 ⟨rfl, hx⟩
      go_wp2_with fail
      refine (iRowsValid_c n b cb lb w1 (hb.ext hx) (by omega)).mono ?_
      rintro e w2 ⟨rfl, hx2⟩
      have hx2 := hx.trans hx2
      obtain ⟨b1, o1, p1, q1⟩ := ha
      have HB := Lib.hid hb
      have P1 := Lib.hid p1
      have Q1 := Lib.hid q1
      clear p1 q1 hx hb
      go_wp2
      go_loopw [7, 22] (fun v i wr => Hid (∃ k : Nat, k ≤ la.length ∧ i = .int .i64 k ∧ OwnI wr w.heap.size 3 v (thenTo la lb k) ∧ Ext w wr)) (fun _ i _ => la.length - (intOf i).toNat)
      case atStart => exact Lib.hid ⟨0, Nat.zero_le _, rfl, OwnI.nil _ _ _, hx2⟩
      case round =>
        obtain ⟨k, hk, rfl, ho, hxr⟩ := hrel.out
        clear hrel
        by_cases hlt : k < la.length
        · obtain ⟨rfl, hb1⟩ := P1.out (by omega)
          have hc1 := hxr.cell' (Q1.out k hlt) hb1
          rw [S1.out.eq k hlt] at hc1
          have hib := HB.out.ext hxr
          clear P1 Q1
          go_wp2_with (first | (go_at_call 70; refine (image_c _ _ _ _ _ hib S2.out (by have := HL.out; omega) (S1.out.lt k hlt)).mono ?_; rintro e w' ⟨rfl, rfl⟩) | (at_builtin; refine append_int rfl _ _ _ rfl w.heap.size 3 Tryd.underlying29 infoInt _ (thenTo la lb k) rfl ?ho _ (((img lb (natAt la k) : Nat) : Int)) rfl ?hc ?c1 ?c2 ?_))
          case ho => exact ho.ext (by (repeat (first | exact Ext.refl _ | assumption | refine Ext.alloc ?_ _ | refine Ext.drewN ?_ _ | refine Ext.drew ?_)))
          case hc => first | exact cell_new0 _ _ _ | simp
          case c1 => rw [thenTo_length]; omega
          case c2 => have := hxr.size; simp; omega
          intro v' w' ho' hg
          go_wp2
          go_roundw
          case rel => exact Lib.hid ⟨k + 1, by omega, by go_num, by rw [thenTo_succ]; exact ho', OwnI.grown (ho.ext (by (repeat (first | exact Ext.refl _ | assumption | refine Ext.alloc ?_ _ | refine Ext.drewN ?_ _ | refine Ext.drew ?_)))) (by (repeat (first | exact Ext.refl _ | assumption | refine Ext.alloc ?_ _ | refine Ext.drewN ?_ _ | refine Ext.drew ?_))) hg⟩
          case measure => simp [intOf]; omega
        · obtain rfl : k = la.length := by omega
          go_wp2
          go_ret
          exact ⟨_, rfl, ho, hxr⟩

end Go.Proofs.YtlaamecfknkmlaaDoor
/- Contracts: rows again and again, and back. -/
namespace Go.Proofs.YtlaamecfknkmlaaDoor
set_option linter.unusedVariables false
open Go.RowKit Go.Kt

/-- RowsStar, RowsBack. -/
def starF (n : Int) (a : List Int) : List Int := if rvB n a then starTo a a.length else []
def backF (n : Int) (a : List Int) : List Int := if rvB n a then backTo a a.length else []

theorem iRowsStar_c (n : Int) (a : Option Addr) (ca : Nat) (la : List Int) (w : World) (ha : IntsAt w a la) (hla : la.length ≤ 1048576) :
    Calls Tryd.prog 57 #[.int .i64 n, .slice a la.length ca] w (RetI 3 w (starF n la)) := by
  cases h1 : rvB n la
  · have hF : starF n la = [] := by simp [starF, h1]
    rw [hF]
    clear hF
    go_enter Tryd.func57, Tryd.ntmps57
    go_wp2_with fail
    refine (iRowsValid_c n a ca la w ha (by omega)).mono ?_
    rintro e w1 ⟨rfl, hx⟩
    go_wp2
    go_ret
    exact ⟨_, rfl, OwnI.nil _ _ _, hx⟩
  · have hF : starF n la = starTo la la.length := by simp [starF, h1]
    rw [hF]
    obtain ⟨s1, sb, -, l5⟩ := rvB_sets h1
    have sb' : ∀ i, i < la.length → natAt la i < 2 ^ 5 := fun i hi => Nat.lt_of_lt_of_le (sb i hi) (by
      have hn : n.toNat ≤ 5 := by have := rvB_len h1; omega
      exact Nat.pow_le_pow_right (by decide) hn)
    have S1 := Lib.hid s1
    have SB := Lib.hid sb'
    have HA := Lib.hid ha
    clear hF s1 sb sb'
    go_enter Tryd.func57, Tryd.ntmps57
    go_wp2_with fail
    refine (iRowsValid_c n a ca la w ha (by omega)).mono ?_
    rintro e w1 ⟨rfl, hx⟩
    clear ha
    go_wp2
    go_loopw [5, 15] (fun v i wr => Hid (∃ k : Nat, k ≤ la.length ∧ i = .int .i64 k ∧ OwnI wr w.heap.size 3 v (starTo la k) ∧ Ext w wr)) (fun _ i _ => la.length - (intOf i).toNat)
    case atStart => exact Lib.hid ⟨0, Nat.zero_le _, rfl, OwnI.nil _ _ _, hx⟩
    case round =>
      obtain ⟨k, hk, rfl, ho, hxr⟩ := hrel.out
      clear hrel
      by_cases hlt : k < la.length
      · have hia := HA.out.ext hxr
        have hpc := pow2_cast k
        have hp1 : pow2 k ≤ 16 := pow2_le k 4 (by omega)
        have hpl : pow2 k < 2 ^ 5 := Nat.lt_of_le_of_lt hp1 (by decide)
        have PL := Lib.hid hpl
        clear hpl
        have e0 : bits .or .i64 ((pow2 k : Nat) : Int) ((img la (pow2 k) : Nat) : Int) = ((stepN la (pow2 k) : Nat) : Int) := i64_orN _ _ (by omega) (Nat.lt_trans (img_lt SB.out _) (by decide))
        go_wp2_with (go_at_call 70; refine (image_c _ _ _ _ _ hia S1.out (by omega) (by omega)).mono ?_; rintro e w' ⟨rfl, rfl⟩)
        go_loop [7, 8] (fun s nx => Hid (∃ i : Nat, i ≤ iterN la (pow2 k) i ∧ s = .int .i64 (iterN la (pow2 k) i : Nat) ∧ nx = .int .i64 (iterN la (pow2 k) (i + 1) : Nat))) (fun s _ => 40 - (intOf s).toNat)
        case atStart => exact Lib.hid ⟨0, Nat.zero_le _, rfl, rfl⟩
        case round =>
          obtain ⟨i, hi, rfl, rfl⟩ := hrel.out
          clear hrel e0
          have l1 : iterN la (pow2 k) i < 32 := iterN_lt SB.out PL.out i
          have l2 : iterN la (pow2 k) (i + 1) < 32 := iterN_lt SB.out PL.out (i + 1)
          have hge : iterN la (pow2 k) i ≤ iterN la (pow2 k) (i + 1) := stepN_ge _ _
          by_cases hf : iterN la (pow2 k) (i + 1) = iterN la (pow2 k) i
          · have hb : (((iterN la (pow2 k) (i + 1) : Nat) : Int) != ((iterN la (pow2 k) i : Nat) : Int)) = false := by simp [hf]
            have HC := Lib.hid (clo_of_fix la (pow2 k) i (by omega) hf)
            clear hf
            go_wp2_with (at_builtin; refine append_int rfl _ _ _ rfl w.heap.size 3 Tryd.underlying29 infoInt _ (starTo la k) rfl ?ho _ (((iterN la (pow2 k) i : Nat) : Int)) rfl ?hc ?c1 ?c2 ?_)
            case ho => exact ho.ext (by (repeat (first | exact Ext.refl _ | assumption | refine Ext.alloc ?_ _ | refine Ext.drewN ?_ _ | refine Ext.drew ?_)))
            try (case hc => first | exact cell_new0 _ _ _ | simp)
            case c1 => rw [starTo_length]; omega
            case c2 => have := hxr.size; simp; omega
            intro v' w' ho' hg
            go_wp2
            go_roundw
            case rel => exact Lib.hid ⟨k + 1, by omega, by go_num, by rw [starTo_succ, HC.out]; exact ho', OwnI.grown (ho.ext (by (repeat (first | exact Ext.refl _ | assumption | refine Ext.alloc ?_ _ | refine Ext.drewN ?_ _ | refine Ext.drew ?_)))) (by (repeat (first | exact Ext.refl _ | assumption | refine Ext.alloc ?_ _ | refine Ext.drewN ?_ _ | refine Ext.drew ?_))) hg⟩
            case measure => simp [intOf]; omega
          · have hb : (((iterN la (pow2 k) (i + 1) : Nat) : Int) != ((iterN la (pow2 k) i : Nat) : Int)) = true := by
              rw [bne_iff_ne]; intro he; exact hf (by exact_mod_cast he)
            have l3 : img la (iterN la (pow2 k) (i + 1)) < 4294967296 := Nat.lt_trans (img_lt SB.out _) (by decide)
            have e1 : bits .or .i64 ((iterN la (pow2 k) (i + 1) : Nat) : Int) ((img la (iterN la (pow2 k) (i + 1)) : Nat) : Int) = ((iterN la (pow2 k) (i + 1 + 1) : Nat) : Int) := i64_orN _ _ (by omega) l3
            have hgt : iterN la (pow2 k) i < iterN la (pow2 k) (i + 1) := by omega
            clear hf
            go_wp2_with (go_at_call 70; refine (image_c _ _ _ _ _ hia S1.out (by omega) (by omega)).mono ?_; rintro e w' ⟨rfl, rfl⟩)
            go_round
            case rel => exact Lib.hid ⟨i + 1, by omega, rfl, rfl⟩
            case measure => simp [intOf]; omega
      · obtain rfl : k = la.length := by omega
        go_wp2
        go_ret
        exact ⟨_, rfl, ho, hxr⟩

theorem backF_len (n : Int) (a : List Int) : (backF n a).length ≤ 5 := by
  unfold backF
  split
  · rename_i h; rw [backTo_length]; exact (rvB_sets h).2.2.2
  · simp
theorem starF_len (n : Int) (a : List Int) : (starF n a).length ≤ 5 := by
  unfold starF
  split
  · rename_i h; rw [starTo_length]; exact (rvB_sets h).2.2.2
  · simp
theorem plusF_len (n : Int) (a b : List Int) : (plusF n a b).length ≤ 5 := by
  unfold plusF
  split
  · rename_i h; rw [plusTo_length]; exact (rvB_sets (Bool.and_eq_true_iff.1 h).1).2.2.2
  · simp
theorem thenF_len (n : Int) (a b : List Int) : (thenF n a b).length ≤ 5 := by
  unfold thenF
  split
  · rename_i h; rw [thenTo_length]; exact (rvB_sets (Bool.and_eq_true_iff.1 h).1).2.2.2
  · simp
end Go.Proofs.YtlaamecfknkmlaaDoor
/- Contracts: validity of models. -/
namespace Go.Proofs.YtlaamecfknkmlaaDoor
set_option linter.unusedVariables false
open Go.RowKit Go.Kt

/-- A model is valid. -/
def mvB (st p q : Int) (ll : List (List Int)) : Bool := decide (1 ≤ st ∧ st ≤ 5 ∧ (0 ≤ p ∧ p < 2 ^ st.toNat) ∧ (0 ≤ q ∧ q < 2 ^ st.toNat) ∧ ll.length = 3 ∧ ∀ r ∈ ll, rvB st r = true)
/-- A model as a value. -/
abbrev modelV (st p q : Int) (a : Option Addr) (n cap : Nat) : Value := .agg #[.int .i64 st, .int .i64 p, .int .i64 q, .slice a n cap]
/-- What slices.IndexFunc answers over rows. -/
def findR (p : List Int → Bool) (l : List (List Int)) : Int := if l.any p then ((l.findIdx p : Nat) : Int) else -1
theorem findR_none (p : List Int → Bool) (l : List (List Int)) (h : ∀ j, j < l.length → p (rowI l j) = false) : findR p l = -1 := by
  unfold findR
  rw [if_neg]
  rw [List.any_eq_true]
  rintro ⟨x, hx, hp⟩
  obtain ⟨j, hj, rfl⟩ := List.getElem_of_mem hx
  have := h j hj
  rw [rowI_getElem l j hj] at this
  rw [this] at hp; cases hp
theorem findR_at (p : List Int → Bool) (l : List (List Int)) (k : Nat) (hk : k < l.length) (h : ∀ j, j < k → p (rowI l j) = false) (hp : p (rowI l k) = true) : findR p l = k := by
  unfold findR
  rw [rowI_getElem l k hk] at hp
  rw [if_pos (List.any_eq_true.2 ⟨_, List.getElem_mem hk, hp⟩)]
  congr 1
  rw [List.findIdx_eq hk]
  refine ⟨hp, fun j hj => ?_⟩
  have := h j hj
  rwa [rowI_getElem l j (by omega)] at this
theorem findR_nonneg (p : List Int → Bool) (l : List (List Int)) : decide (0 ≤ findR p l) = l.any p := by
  unfold findR
  cases l.any p <;> simp

theorem indexFuncR_c (a : Option Addr) (cap : Nat) (l : List (List Int)) (cv : Value) (p : List Int → Bool) (w : World) (hl : RowsAt w a l) (hlen : l.length ≤ 4611686018427387904)
    (hf : ∀ ai ci r w1, r ∈ l → Ext w w1 → IntsAt w1 ai r → Calls Tryd.prog 49 #[.slice ai r.length ci, cv] w1 fun e w' => e = .returned (.bool (p r)) ∧ Ext w1 w') :
    Calls Tryd.prog 67 #[.slice a l.length cap, .func (.func 49) #[] #[cv]] w fun e w' => e = .returned (.int .i64 (findR p l)) ∧ Ext w w' := by
  obtain ⟨b, off, h1, h2⟩ := hl
  have H1 := Lib.hid h1
  have H2 := Lib.hid h2
  have HF := Lib.hid hf
  clear h1 h2 hf
  go_enter Tryd.func67, Tryd.ntmps67
  go_wp2
  go_loopw [8] (fun i wr => Hid (∃ k : Nat, k ≤ l.length ∧ i = .int .i64 k ∧ (∀ j, j < k → p (rowI l j) = false) ∧ Ext w wr)) (fun i _ => l.length - (intOf i).toNat)
  case atStart => exact Lib.hid ⟨0, Nat.zero_le _, rfl, fun j hj => absurd hj (Nat.not_lt_zero _), Ext.refl _⟩
  case round =>
    obtain ⟨k, hk, rfl, hno, hx⟩ := hrel.out
    clear hrel
    have hno' := Lib.hid hno
    clear hno
    by_cases hlt : k < l.length
    · obtain ⟨rfl, hb⟩ := H1.out (by omega)
      obtain ⟨ai, ci, hcw, hi⟩ := H2.out k hlt
      have hc := hx.cell' hcw hb
      have hmem := rowI_mem l k hlt
      cases hp : p (rowI l k)
      all_goals
        have hp' := Lib.hid hp
        have hcall := Lib.hid (HF.out ai ci (rowI l k) wr hmem hx (hi.ext hx))
        rw [hp] at hcall
        clear hp hmem hcw hi
        go_wp2_with fail
        refine (hcall.out).mono ?_
        rintro e w1 ⟨rfl, hx1⟩
        go_wp2
      · go_roundw
        case rel => exact Lib.hid ⟨k + 1, by omega, by go_num, upto_succ hno'.out hp'.out, hx.trans hx1⟩
        case measure => simp [intOf]; omega
      · go_ret
        exact ⟨by rw [findR_at p l k hlt hno'.out hp'.out]; rfl, hx.trans hx1⟩
    · obtain rfl : k = l.length := by omega
      go_wp2
      go_ret
      exact ⟨by rw [findR_none p l hno'.out]; rfl, hx⟩

theorem containsFuncR_c (a : Option Addr) (cap : Nat) (l : List (List Int)) (cv : Value) (p : List Int → Bool) (w : World) (hl : RowsAt w a l) (hlen : l.length ≤ 4611686018427387904)
    (hf : ∀ ai ci r w1, r ∈ l → Ext w w1 → IntsAt w1 ai r → Calls Tryd.prog 49 #[.slice ai r.length ci, cv] w1 fun e w' => e = .returned (.bool (p r)) ∧ Ext w1 w') :
    Calls Tryd.prog 48 #[.slice a l.length cap, .func (.func 49) #[] #[cv]] w fun e w' => e = .returned (.bool (l.any p)) ∧ Ext w w' := by
  have HC := Lib.hid (indexFuncR_c a cap l cv p w hl hlen hf)
  clear hf hl
  go_enter Tryd.func48, Tryd.ntmps48
  go_wp2_with fail
  refine HC.out.mono ?_
  rintro e w1 ⟨rfl, hx⟩
  go_wp2
  go_ret
  exact ⟨by rw [← findR_nonneg]; rfl, hx⟩

/-- Rows that are not valid for so many states. -/
def badRows (st : Int) (r : List Int) : Bool := !rvB st r

theorem mvClosure_c (b : Nat) (st : Int) (ai : Option Addr) (ci : Nat) (r : List Int) (w : World) (hr : r.length ≤ 4611686018427387904) (hi : IntsAt w ai r) (hb : w.cell? ⟨b, 0, none⟩ = some (.int .i64 st)) :
    Calls Tryd.prog 49 #[.slice ai r.length ci, .pointer (some ⟨b, 0, none⟩)] w fun e w' => e = .returned (.bool (badRows st r)) ∧ Ext w w' := by
  go_enter Tryd.func49, Tryd.ntmps49
  go_wp2_with (go_at_call 50; refine (iRowsValid_c _ _ _ _ _ hi hr).mono ?_; rintro e w1 ⟨rfl, hx⟩)
  go_ret
  exact ⟨rfl, hx⟩

theorem mv_any (st : Int) (ll : List (List Int)) : (!ll.any (badRows st)) = true ↔ ∀ r ∈ ll, rvB st r = true := by
  simp [badRows]
theorem mvB_of (s : Nat) (p q : Int) (ll : List (List Int)) (h1 : 1 ≤ s) (h2 : s ≤ 5) : mvB s p q ll = (setB s p && (setB s q && (decide (ll.length = 3) && !ll.any (badRows s)))) := by
  rw [Bool.eq_iff_iff]
  simp only [mvB, setB, Bool.and_eq_true, decide_eq_true_eq, mv_any, Int.toNat_natCast]
  constructor
  · rintro ⟨_, _, a, b, c, d⟩; exact ⟨a, b, c, d⟩
  · rintro ⟨a, b, c, d⟩; exact ⟨by omega, by omega, a, b, c, d⟩
theorem mvB_out (st p q : Int) (ll : List (List Int)) (h : ¬ (1 ≤ st ∧ st ≤ 5)) : mvB st p q ll = false := by
  simp [mvB]; omega

theorem iModelValid_c (st p q : Int) (a : Option Addr) (cap : Nat) (ll : List (List Int)) (w : World) (hr : RowsAt w a ll) (hlen : ll.length ≤ 4194304) (hm : ∀ i, i < ll.length → (rowI ll i).length ≤ 4194304) :
    Calls Tryd.prog 22 #[modelV st p q a ll.length cap] w fun e w' => e = .returned (.bool (mvB st p q ll)) ∧ Ext w w' := by
  have HR := Lib.hid hr
  have HM := Lib.hid hm
  clear hr hm
  by_cases h1 : 1 ≤ st ∧ st ≤ 5
  · obtain ⟨s, rfl⟩ := Int.eq_ofNat_of_zero_le (show 0 ≤ st by omega)
    have hd : decide (1 ≤ (s : Int) ∧ (s : Int) ≤ 5) = true := by simp; omega
    have HV := Lib.hid (mvB_of s p q ll (by omega) (by omega))
    have hs5 : s ≤ 5 := by omega
    cases hp : setB s p
    · go_enter Tryd.func22, Tryd.ntmps22
      go_wp2_with fail
      refine (hasStates_c _ _).mono ?_
      rintro e w1 ⟨rfl, rfl⟩
      go_wp2_with fail
      refine (isSet_c _ _ _ hs5).mono ?_
      rintro e w1 ⟨rfl, rfl⟩
      go_wp2
      go_ret
      exact ⟨by rw [HV.out, hp]; rfl, by (repeat (first | exact Ext.refl _ | assumption | refine Ext.alloc ?_ _ | refine Ext.drewN ?_ _ | refine Ext.drew ?_))⟩
    · cases hq : setB s q
      · go_enter Tryd.func22, Tryd.ntmps22
        go_wp2_with fail
        refine (hasStates_c _ _).mono ?_
        rintro e w1 ⟨rfl, rfl⟩
        go_wp2_with fail
        refine (isSet_c _ _ _ hs5).mono ?_
        rintro e w1 ⟨rfl, rfl⟩
        go_wp2_with fail
        refine (isSet_c _ _ _ hs5).mono ?_
        rintro e w1 ⟨rfl, rfl⟩
        go_wp2
        go_ret
        exact ⟨by rw [HV.out, hp, hq]; rfl, by (repeat (first | exact Ext.refl _ | assumption | refine Ext.alloc ?_ _ | refine Ext.drewN ?_ _ | refine Ext.drew ?_))⟩
      · by_cases h3 : ll.length = 3
        · have hne : (((ll.length : Nat) : Int) != 3) = false := by simp [h3]
          have H3 := Lib.hid h3
          clear h3
          go_enter Tryd.func22, Tryd.ntmps22
          go_wp2_with fail
          refine (hasStates_c _ _).mono ?_
          rintro e w1 ⟨rfl, rfl⟩
          go_wp2_with fail
          refine (isSet_c _ _ _ hs5).mono ?_
          rintro e w1 ⟨rfl, rfl⟩
          go_wp2_with fail
          refine (isSet_c _ _ _ hs5).mono ?_
          rintro e w1 ⟨rfl, rfl⟩
          go_wp2_with fail
          refine (containsFuncR_c a cap ll _ (badRows s) _ (HR.out.ext (by (repeat (first | exact Ext.refl _ | assumption | refine Ext.alloc ?_ _ | refine Ext.drewN ?_ _ | refine Ext.drew ?_)))) (by omega) ?_).mono ?_
          · intro ai ci r w1 hmem hx hi
            refine (mvClosure_c w.heap.size s ai ci r w1 ?_ hi ?_)
            · obtain ⟨j, hj, rfl⟩ := List.getElem_of_mem hmem
              have := HM.out j hj
              rw [rowI_getElem ll j hj] at this
              omega
            · exact hx.cell' (by simp [go_sem]) (by simp)
          · rintro e w1 ⟨rfl, hx⟩
            have hx2 := Ext.trans (by (repeat (first | exact Ext.refl _ | assumption | refine Ext.alloc ?_ _ | refine Ext.drewN ?_ _ | refine Ext.drew ?_)) : Ext w _) hx
            go_wp2
            go_ret
            exact ⟨by rw [HV.out, hp, hq, H3.out]; simp, hx2⟩
        · have hne : (((ll.length : Nat) : Int) != 3) = true := by simp; omega
          go_enter Tryd.func22, Tryd.ntmps22
          go_wp2_with fail
          refine (hasStates_c _ _).mono ?_
          rintro e w1 ⟨rfl, rfl⟩
          go_wp2_with fail
          refine (isSet_c _ _ _ hs5).mono ?_
          rintro e w1 ⟨rfl, rfl⟩
          go_wp2_with fail
          refine (isSet_c _ _ _ hs5).mono ?_
          rintro e w1 ⟨rfl, rfl⟩
          go_wp2
          go_ret
          exact ⟨by rw [HV.out, hp, hq]; simp [h3], by (repeat (first | exact Ext.refl _ | assumption | refine Ext.alloc ?_ _ | refine Ext.drewN ?_ _ | refine Ext.drew ?_))⟩
  · have hd : decide (1 ≤ st ∧ st ≤ 5) = false := by simpa using h1
    have HV := Lib.hid (mvB_out st p q ll h1)
    clear h1
    go_enter Tryd.func22, Tryd.ntmps22
    go_wp2_with fail
    refine (hasStates_c _ _).mono ?_
    rintro e w1 ⟨rfl, rfl⟩
    go_wp2
    go_ret
    exact ⟨by rw [HV.out]; rfl, by (repeat (first | exact Ext.refl _ | assumption | refine Ext.alloc ?_ _ | refine Ext.drewN ?_ _ | refine Ext.drew ?_))⟩
end Go.Proofs.YtlaamecfknkmlaaDoor
