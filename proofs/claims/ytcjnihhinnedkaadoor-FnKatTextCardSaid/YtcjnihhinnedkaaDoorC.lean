/- Contracts: copies of slices of ints, and whether two read alike. -/
import Derived.Test.YtcjnihhinnedkaaDoorB
namespace Go.Proofs.YtcjnihhinnedkaaDoor
set_option linter.unusedVariables false
open Go.RowKit Go.Kt

theorem infoInt : (Tryd.prog.info? 3).map (fun i => (i.zero, i.size, i.bytes)) = some (some (.int .i64 0), 1, 8) := by kernel_rfl

set_option maxRecDepth 100000 in
theorem toIntS_c (a : Option Addr) (cap : Nat) (l : List Int) (w : World) (hl : IntsAt w a l) (hlen : l.length ≤ 4194304) :
    Calls Tryd.prog 7 #[.slice a l.length cap] w (RetI 3 w l) := by
  obtain ⟨b, off, h1, h2⟩ := hl
  have H1 := Lib.hid h1
  have H2 := Lib.hid h2
  clear h1 h2
  obtain ⟨i0, hi, hz0, hz1, hz2⟩ := info_parts infoInt
  have Hi := Lib.hid hi
  have Hz0 := Lib.hid hz0
  have Hz1 := Lib.hid hz1
  have Hz2 := Lib.hid hz2
  clear hi hz0 hz1 hz2
  go_enter Tryd.func7, Tryd.ntmps7
  go_wp2_with (at_make; refine wpList_make_full _ rfl _ _ _ rfl w.heap.size 3 i0 (.int .i64 0) 1 Tryd.underlying22 Hi.out Hz0.out Hz1.out _ _ _ _ l.length rfl rfl rfl rfl (by rw [Hz2.out]; omega) (by unfold maxLen; omega) (Nat.le_refl _) ?_)
  intro w1 ho hg
  have hx1 := Ext.of_grown hg
  have ho1 := own_made ho
  clear ho hg
  go_wp2
  go_loopw [4] (fun i wr => Hid (∃ k : Nat, k ≤ l.length ∧ i = .int .i64 k ∧ OwnI wr w.heap.size 3 (.slice (some ⟨w.heap.size, 0, none⟩) l.length l.length) (fillTo l k) ∧ Ext w wr)) (fun i _ => l.length - (intOf i).toNat)
  case atStart => exact Lib.hid ⟨0, Nat.zero_le _, rfl, by rw [fillTo_zero]; exact ho1, hx1⟩
  case round =>
    obtain ⟨k, hk, rfl, ho, hx⟩ := hrel.out
    clear hrel ho1 hx1
    have hfl := Lib.hid (fillTo_length l k hk)
    by_cases hlt : k < l.length
    · obtain ⟨rfl, hb⟩ := H1.out (by omega)
      have hc := hx.cell' (H2.out k hlt) hb
      clear H1 H2
      have ho2 : OwnI wr w.heap.size 3 (.slice (some ⟨w.heap.size, 0, none⟩) (fillTo l k).length l.length) (fillTo l k) := by rw [hfl.out]; exact ho
      obtain ⟨g, cap', hv, hB, hg, hcell, hfz⟩ := ho2.row (by rw [hfl.out]; omega)
      obtain ⟨rfl, _⟩ : w.heap.size = g ∧ l.length = cap' := by simpa using hv
      have hc2 := hcell k (by rw [hfl.out]; omega)
      have hf2 := hfz k
      have hset := Lib.hid (ho2.set k (nth l k))
      clear hv hcell hfz ho ho2
      go_wp2
      go_roundw
      case rel => exact Lib.hid ⟨k + 1, by omega, by go_num, own_len (hset.out) (fillTo_set l k hlt) (fillTo_length l _ (by omega)), hx.setCell (Nat.le_refl _) _⟩
      case measure => simp [intOf]; omega
    · obtain rfl : k = l.length := by omega
      rw [fillTo_end] at ho
      clear hfl
      go_wp2
      go_ret
      exact ⟨_, rfl, ho, hx⟩
theorem eqIntS_d (a a' : Option Addr) (cap cap' : Nat) (l l' : List Int) (w : World) (hl : IntsAt w a l) (hl' : IntsAt w a' l') (hlen : l.length ≤ 4611686018427387904) (hlen' : l'.length ≤ 4611686018427387904) :
    Calls Tryd.prog 9 #[.slice a l.length cap, .slice a' l'.length cap'] w fun e w' => e = .returned (.bool (l == l')) ∧ ∃ m, w' = w.drewN m := by
  obtain ⟨b, off, h1, h2⟩ := hl
  obtain ⟨b', off', h1', h2'⟩ := hl'
  have H1 := Lib.hid h1
  have H2 := Lib.hid h2
  have H1' := Lib.hid h1'
  have H2' := Lib.hid h2'
  clear h1 h2 h1' h2'
  by_cases hn : l.length = l'.length
  · have HN := Lib.hid hn
    have hne : (((l.length : Nat) : Int) != ((l'.length : Nat) : Int)) = false := by simp [hn]
    clear hn
    go_enter Tryd.func9, Tryd.ntmps9
    go_wp2
    go_loopw [5] (fun i wr => Hid (∃ k : Nat, k ≤ l.length ∧ i = .int .i64 k ∧ (∀ j, j < k → nth l j = nth l' j) ∧ ∃ m, wr = w.drewN m)) (fun i _ => l.length - (intOf i).toNat)
    case atStart => exact Lib.hid ⟨0, Nat.zero_le _, rfl, fun j hj => absurd hj (Nat.not_lt_zero _), 0, rfl⟩
    case round =>
      obtain ⟨k, hk, rfl, hno, m, rfl⟩ := hrel.out
      have HD := Lib.hid hno
      clear hrel hno
      by_cases hlt : k < l.length
      · obtain ⟨rfl, hb⟩ := H1.out (by omega)
        obtain ⟨rfl, hb'⟩ := H1'.out (by have := HN.out; omega)
        have hc := H2.out k hlt
        have hlt' : k < l'.length := by have := HN.out; omega
        have hc' := H2'.out k hlt'
        clear H1 H2 H1' H2'
        cases hq : (nth l k != nth l' k)
        all_goals
          go_wp2
          go_quiet (fail)
          go_wp2
        · go_roundw
          case rel => exact Lib.hid ⟨k + 1, by omega, by go_num, upto_succ HD.out (by simpa using hq), by first | exact ⟨_, rfl⟩ | exact drawn2 _ _ _⟩
          case measure => simp [intOf]; omega
        · go_ret
          have hf : (l == l') = false := by rw [beq_eq_false_iff_ne]; rintro rfl; simp at hq
          exact ⟨by rw [hf]; rfl, by first | exact ⟨_, rfl⟩ | exact drawn2 _ _ _⟩
      · obtain rfl : k = l.length := by omega
        have hf := Lib.hid (show (l == l') = true by rw [beq_iff_eq]; exact ext_nth l l' HN.out HD.out)
        go_wp2
        go_ret
        exact ⟨by rw [hf.out]; rfl, _, rfl⟩
  · have hq := Lib.hid (show (l == l') = false by rw [beq_eq_false_iff_ne]; rintro rfl; exact hn rfl)
    have hne : (((l.length : Nat) : Int) != ((l'.length : Nat) : Int)) = true := by simp; omega
    clear hn
    go_enter Tryd.func9, Tryd.ntmps9
    go_wp2
    go_ret
    exact ⟨by rw [hq.out]; rfl, 0, rfl⟩

theorem eqIntS_c (a a' : Option Addr) (cap cap' : Nat) (l l' : List Int) (w : World) (hl : IntsAt w a l) (hl' : IntsAt w a' l') (hlen : l.length ≤ 4611686018427387904) (hlen' : l'.length ≤ 4611686018427387904) :
    Calls Tryd.prog 9 #[.slice a l.length cap, .slice a' l'.length cap'] w fun e w' => e = .returned (.bool (l == l')) ∧ Ext w w' :=
  (eqIntS_d a a' cap cap' l l' w hl hl' hlen hlen').mono fun _ _ ⟨h, m, hm⟩ => ⟨h, by rw [hm]; exact (Ext.refl w).drewN m⟩

theorem sameInts_d (a a' : Option Addr) (cap cap' : Nat) (l l' : List Int) (w : World) (hl : IntsAt w a l) (hl' : IntsAt w a' l') (hlen : l.length ≤ 4611686018427387904) (hlen' : l'.length ≤ 4611686018427387904) :
    Calls Tryd.prog 13 #[.slice a l.length cap, .slice a' l'.length cap'] w fun e w' => e = .returned (.bool (l == l')) ∧ ∃ m, w' = w.drewN m := by
  obtain ⟨b, off, h1, h2⟩ := hl
  obtain ⟨b', off', h1', h2'⟩ := hl'
  have H1 := Lib.hid h1
  have H2 := Lib.hid h2
  have H1' := Lib.hid h1'
  have H2' := Lib.hid h2'
  clear h1 h2 h1' h2'
  by_cases hn : l.length = l'.length
  · have HN := Lib.hid hn
    have hne : (((l.length : Nat) : Int) != ((l'.length : Nat) : Int)) = false := by simp [hn]
    clear hn
    go_enter Tryd.func13, Tryd.ntmps13
    go_wp2
    go_loopw [5] (fun i wr => Hid (∃ k : Nat, k ≤ l.length ∧ i = .int .i64 k ∧ (∀ j, j < k → nth l j = nth l' j) ∧ ∃ m, wr = w.drewN m)) (fun i _ => l.length - (intOf i).toNat)
    case atStart => exact Lib.hid ⟨0, Nat.zero_le _, rfl, fun j hj => absurd hj (Nat.not_lt_zero _), 0, rfl⟩
    case round =>
      obtain ⟨k, hk, rfl, hno, m, rfl⟩ := hrel.out
      have HD := Lib.hid hno
      clear hrel hno
      by_cases hlt : k < l.length
      · obtain ⟨rfl, hb⟩ := H1.out (by omega)
        obtain ⟨rfl, hb'⟩ := H1'.out (by have := HN.out; omega)
        have hc := H2.out k hlt
        have hlt' : k < l'.length := by have := HN.out; omega
        have hc' := H2'.out k hlt'
        clear H1 H2 H1' H2'
        cases hq : (nth l k != nth l' k)
        all_goals
          go_wp2
          go_quiet (fail)
          go_wp2
        · go_roundw
          case rel => exact Lib.hid ⟨k + 1, by omega, by go_num, upto_succ HD.out (by simpa using hq), by first | exact ⟨_, rfl⟩ | exact drawn2 _ _ _⟩
          case measure => simp [intOf]; omega
        · go_ret
          have hf : (l == l') = false := by rw [beq_eq_false_iff_ne]; rintro rfl; simp at hq
          exact ⟨by rw [hf]; rfl, by first | exact ⟨_, rfl⟩ | exact drawn2 _ _ _⟩
      · obtain rfl : k = l.length := by omega
        have hf := Lib.hid (show (l == l') = true by rw [beq_iff_eq]; exact ext_nth l l' HN.out HD.out)
        go_wp2
        go_ret
        exact ⟨by rw [hf.out]; rfl, _, rfl⟩
  · have hq := Lib.hid (show (l == l') = false by rw [beq_eq_false_iff_ne]; rintro rfl; exact hn rfl)
    have hne : (((l.length : Nat) : Int) != ((l'.length : Nat) : Int)) = true := by simp; omega
    clear hn
    go_enter Tryd.func13, Tryd.ntmps13
    go_wp2
    go_ret
    exact ⟨by rw [hq.out]; rfl, 0, rfl⟩

theorem sameInts_c (a a' : Option Addr) (cap cap' : Nat) (l l' : List Int) (w : World) (hl : IntsAt w a l) (hl' : IntsAt w a' l') (hlen : l.length ≤ 4611686018427387904) (hlen' : l'.length ≤ 4611686018427387904) :
    Calls Tryd.prog 13 #[.slice a l.length cap, .slice a' l'.length cap'] w fun e w' => e = .returned (.bool (l == l')) ∧ Ext w w' :=
  (sameInts_d a a' cap cap' l l' w hl hl' hlen hlen').mono fun _ _ ⟨h, m, hm⟩ => ⟨h, by rw [hm]; exact (Ext.refl w).drewN m⟩

end Go.Proofs.YtcjnihhinnedkaaDoor
