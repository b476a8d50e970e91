/- Contracts: sizes, copies, comparisons and marks of slices of slices of ints and of models. -/
import Derived.Test.YtgpfebpjiddjjaaDoorG
import Derived.Test.YtgpfebpjiddjjaaDoorRows2
namespace Go.Proofs.YtgpfebpjiddjjaaDoor
set_option linter.unusedVariables false
open Go.RowKit Go.Kt

/-- What a look at sizes says: below 0, or all fit. -/
def Fits (ll : List (List Int)) (left : Int) (r : Int) : Prop := r ≤ left ∧ (0 ≤ r → (ll.length : Int) ≤ left ∧ ((totTo ll ll.length : Nat) : Int) ≤ left)

theorem szIntS_c (a : Option Addr) (cap n : Nat) (left : Int) (w : World) (hn : n ≤ 9223372036854775807) (h0 : 0 ≤ left) (h1 : left ≤ 4194304) :
    Calls Tryd.prog 59 #[.slice a n cap, .int .i64 left] w fun e w' => e = .returned (.int .i64 (if (n : Int) ≤ left then left - n else -1)) ∧ w = w' := by
  by_cases h : (n : Int) ≤ left
  · rw [if_pos h]
    go_enter Tryd.func59, Tryd.ntmps59
    go_wp2
    go_ret
    exact ⟨rfl, rfl⟩
  · rw [if_neg h]
    have hlt : left - (n : Int) < 0 := by omega
    go_enter Tryd.func59, Tryd.ntmps59
    go_wp2
    go_ret
    exact ⟨rfl, rfl⟩

theorem szIntSS_c (a : Option Addr) (cap : Nat) (ll : List (List Int)) (left : Int) (w : World) (hr : RowsAt w a ll) (hn : ll.length ≤ 9223372036854775807) (hm : ∀ i, i < ll.length → (rowI ll i).length ≤ 9223372036854775807) (h0 : 0 ≤ left) (h1 : left ≤ 4194304) :
    Calls Tryd.prog 28 #[.slice a ll.length cap, .int .i64 left] w fun e w' => ∃ r : Int, e = .returned (.int .i64 r) ∧ Fits ll left r ∧ w = w' := by
  obtain ⟨b, off, p1, q1⟩ := hr
  have P1 := Lib.hid p1
  have Q1 := Lib.hid q1
  have HM := Lib.hid hm
  clear p1 q1 hm
  by_cases h : (ll.length : Int) ≤ left
  · go_enter Tryd.func28, Tryd.ntmps28
    go_wp2
    go_loop [1, 5] (fun lf i => Hid (∃ k : Nat, k ≤ ll.length ∧ i = .int .i64 k ∧ ((totTo ll k : Nat) : Int) ≤ left - ll.length ∧ lf = .int .i64 (left - ll.length - totTo ll k))) (fun _ i => ll.length - (intOf i).toNat)
    case atStart => exact Lib.hid ⟨0, Nat.zero_le _, rfl, by simp [totTo]; omega, by simp [totTo]⟩
    case round =>
      obtain ⟨k, hk, rfl, ht, rfl⟩ := hrel.out
      clear hrel
      by_cases hlt : k < ll.length
      · obtain ⟨rfl, hb⟩ := P1.out (by omega)
        obtain ⟨ai, ci, hc, hi⟩ := Q1.out k hlt
        have hml := HM.out k hlt
        have hst : totTo ll (k + 1) = totTo ll k + (rowI ll k).length := rfl
        by_cases hf : ((rowI ll k).length : Int) ≤ left - ll.length - totTo ll k
        · have HS := Lib.hid hst
          clear hst hi
          go_wp2_with (go_at_call 59; refine (szIntS_c _ _ _ _ _ hml (by omega) (by omega)).mono ?_; rintro e w' ⟨rfl, rfl⟩)
          go_round
          case rel => exact Lib.hid ⟨k + 1, by omega, by go_num, by rw [HS.out]; omega, by rw [HS.out]; go_num⟩
          case measure => simp [intOf]; omega
        · clear hst hi
          go_wp2_with (go_at_call 59; refine (szIntS_c _ _ _ _ _ hml (by omega) (by omega)).mono ?_; rintro e w' ⟨rfl, rfl⟩)
          go_ret
          exact ⟨-1, rfl, ⟨by omega, fun h => absurd h (by omega)⟩, rfl⟩
      · obtain rfl : k = ll.length := by omega
        go_wp2
        go_ret
        exact ⟨_, rfl, ⟨by omega, fun _ => ⟨by omega, by omega⟩⟩, rfl⟩
  · have hlt : left - (ll.length : Int) < 0 := by omega
    go_enter Tryd.func28, Tryd.ntmps28
    go_wp2
    go_ret
    exact ⟨-1, rfl, ⟨by omega, fun h => absurd h (by omega)⟩, rfl⟩

theorem szModel_c (st p q : Int) (a : Option Addr) (cap : Nat) (ll : List (List Int)) (left : Int) (w : World) (hr : RowsAt w a ll) (hn : ll.length ≤ 9223372036854775807) (hm : ∀ i, i < ll.length → (rowI ll i).length ≤ 9223372036854775807) (h0 : 0 ≤ left) (h1 : left ≤ 4194304) :
    Calls Tryd.prog 6 #[modelV st p q a ll.length cap, .int .i64 left] w fun e w' => ∃ r : Int, e = .returned (.int .i64 r) ∧ Fits ll left r ∧ Ext w w' := by
  have HR := Lib.hid hr
  have HM := Lib.hid hm
  clear hr hm
  go_enter Tryd.func6, Tryd.ntmps6
  go_wp2_with fail
  refine (szIntSS_c a cap ll left _ (HR.out.ext (by (repeat (first | exact Ext.refl _ | assumption | refine Ext.alloc ?_ _ | refine Ext.drewN ?_ _ | refine Ext.drew ?_)))) hn HM.out h0 h1).mono ?_
  rintro e w1 ⟨r, rfl, hf, rfl⟩
  by_cases hr0 : r < 0
  · go_wp2
    go_ret
    exact ⟨-1, rfl, ⟨by omega, fun h => absurd h (by omega)⟩, by (repeat (first | exact Ext.refl _ | assumption | refine Ext.alloc ?_ _ | refine Ext.drewN ?_ _ | refine Ext.drew ?_))⟩
  · go_wp2
    go_ret
    exact ⟨_, rfl, hf, by (repeat (first | exact Ext.refl _ | assumption | refine Ext.alloc ?_ _ | refine Ext.drewN ?_ _ | refine Ext.drew ?_))⟩

theorem infoInts : (Tryd.prog.info? 41).map (fun i => (i.zero, i.size, i.bytes)) = some (some (.slice none 0 0), 1, 24) := by kernel_rfl

theorem toIntSS_c (a : Option Addr) (cap : Nat) (ll : List (List Int)) (w : World) (hr : RowsAt w a ll) (hlen : ll.length ≤ 4194304) (hm : ∀ i, i < ll.length → (rowI ll i).length ≤ 4194304) :
    Calls Tryd.prog 32 #[.slice a ll.length cap] w (RetR 3 41 w ll) := by
  obtain ⟨b, off, p1, q1⟩ := hr
  have P1 := Lib.hid p1
  have Q1 := Lib.hid q1
  have HM := Lib.hid hm
  clear p1 q1 hm
  obtain ⟨i0, hi, hz0, hz1, hz2⟩ := info_parts infoInts
  have Hi := Lib.hid hi
  have Hz0 := Lib.hid hz0
  have Hz1 := Lib.hid hz1
  have Hz2 := Lib.hid hz2
  clear hi hz0 hz1 hz2
  go_enter Tryd.func32, Tryd.ntmps32
  go_wp2_with (at_make; refine wpList_make_full _ rfl _ _ _ rfl w.heap.size 41 i0 (.slice none 0 0) 1 Tryd.underlying22 Hi.out Hz0.out Hz1.out _ _ _ _ ll.length rfl rfl rfl rfl (by rw [Hz2.out]; omega) (by unfold maxLen; omega) (Nat.le_refl _) ?_)
  intro w1 ho hg
  have hx1 := Ext.of_grown hg
  have ho1 : OwnRk w1 w.heap.size w1.heap.size 3 41 (.slice (some ⟨w.heap.size, 0, none⟩) ll.length ll.length) ll.length ll 0 := OwnRk.start ho hx1.size
  clear ho hg
  go_wp2
  go_loopw [4] (fun i wr => Hid (∃ k : Nat, k ≤ ll.length ∧ i = .int .i64 k ∧ OwnRk wr w.heap.size wr.heap.size 3 41 (.slice (some ⟨w.heap.size, 0, none⟩) ll.length ll.length) ll.length ll k ∧ Ext w wr)) (fun i _ => ll.length - (intOf i).toNat)
  case atStart => exact Lib.hid ⟨0, Nat.zero_le _, rfl, ho1, hx1⟩
  case round =>
    obtain ⟨k, hk, rfl, ho, hx⟩ := hrel.out
    clear hrel ho1 hx1
    by_cases hlt : k < ll.length
    · obtain ⟨rfl, hb⟩ := P1.out (by omega)
      obtain ⟨ai, ci, hcw, hiw⟩ := Q1.out k hlt
      have hc := hx.cell' hcw hb
      have hi := hiw.ext hx
      have hml := HM.out k hlt
      obtain ⟨g, hv, hB, hgT, hgs, hfz, hcl, _⟩ := ho.row hk (by omega)
      obtain rfl : w.heap.size = g := by simpa using hv
      obtain ⟨x, hcx⟩ := hcl k hlt
      have hf := hfz k
      clear hv hfz hcl hcw hiw
      go_wp2_with fail
      refine (toIntS_c ai ci (rowI ll k) _ hi hml).mono ?_
      rintro e w2 ⟨v2, rfl, ho2, hx2⟩
      have hcx2 := hx2.cell' hcx hgs
      have hf2 : w2.frozen? ⟨w.heap.size, k, none⟩ = false := by rw [hx2.frozen (p := ⟨w.heap.size, k, none⟩) hgs]; exact hf
      have hst := Lib.hid (ho.step' hx2 hlt ho2)
      have hx3 := (hx.trans hx2).setCell (p := ⟨w.heap.size, k, none⟩) (Nat.le_refl _) v2
      obtain ⟨a2, c2, rfl, _⟩ := ho2.shape
      clear ho hc hi hcx hf ho2 hx2
      go_wp2
      go_roundw
      case rel => exact Lib.hid ⟨k + 1, by omega, by go_num, hst.out, hx3⟩
      case measure => simp [intOf]; omega
    · obtain rfl : k = ll.length := by omega
      go_wp2
      go_ret
      exact ⟨_, rfl, ho, hx⟩

theorem toModel_c (st p q : Int) (a : Option Addr) (cap : Nat) (ll : List (List Int)) (w : World) (hr : RowsAt w a ll) (hlen : ll.length ≤ 4194304) (hm : ∀ i, i < ll.length → (rowI ll i).length ≤ 4194304) :
    Calls Tryd.prog 9 #[modelV st p q a ll.length cap] w (RetM 3 41 w st p q ll) := by
  have HR := Lib.hid hr
  have HM := Lib.hid hm
  clear hr hm
  go_enter Tryd.func9, Tryd.ntmps9
  go_wp2_with fail
  refine (toIntSS_c a cap ll _ (HR.out.ext (by (repeat (first | exact Ext.refl _ | assumption | refine Ext.alloc ?_ _ | refine Ext.drewN ?_ _ | refine Ext.drew ?_)))) hlen HM.out).mono ?_
  rintro e w1 ⟨v1, rfl, ho, hx⟩
  obtain ⟨a1, c1, rfl⟩ := ho.shape
  have HX := Lib.hid hx
  have HO := Lib.hid ho
  obtain ⟨hc, hf⟩ := hx.cells
  have hz := hx.size
  simp only [World.size_alloc] at hz
  clear hx ho
  go_wp2
  refine bodyPost_ret (v := .agg #[.int .i64 st, .int .i64 p, .int .i64 q, .slice a1 ll.length c1]) (by simp [results, Tryd.results9, go_sem, hc]) rfl ⟨_, rfl, ?_, ?_⟩
  · refine OwnR.mono (B := w.heap.size + 1 + 1 + 1) (T := w1.heap.size) ?_ (by omega) (by simp) (Nat.le_refl _)
    repeat (refine OwnR.setOld ?_ (by simp; try omega) _)
    simpa using HO.out
  · repeat (refine Ext.setCell ?_ (by simp; try omega) _)
    exact Ext.trans (by (repeat (first | exact Ext.refl _ | assumption | refine Ext.alloc ?_ _ | refine Ext.drewN ?_ _ | refine Ext.drew ?_))) HX.out

theorem eqIntSS_c (a a' : Option Addr) (cap cap' : Nat) (ll ll' : List (List Int)) (w : World) (hl : RowsAt w a ll) (hl' : RowsAt w a' ll') (hlen : ll.length ≤ 4611686018427387904) (hlen' : ll'.length ≤ 4611686018427387904)
    (hm : ∀ i, i < ll.length → (rowI ll i).length ≤ 4611686018427387904) (hm' : ∀ i, i < ll'.length → (rowI ll' i).length ≤ 4611686018427387904) :
    Calls Tryd.prog 38 #[.slice a ll.length cap, .slice a' ll'.length cap'] w fun e w' => e = .returned (.bool (ll == ll')) ∧ ∃ m, w' = w.drewN m := by
  obtain ⟨b, off, h1, h2⟩ := hl
  obtain ⟨b', off', h1', h2'⟩ := hl'
  have H1 := Lib.hid h1
  have H2 := Lib.hid h2
  have H1' := Lib.hid h1'
  have H2' := Lib.hid h2'
  have HM := Lib.hid hm
  have HM' := Lib.hid hm'
  clear h1 h2 h1' h2' hm hm'
  by_cases hn : ll.length = ll'.length
  · have HN := Lib.hid hn
    have hne : (((ll.length : Nat) : Int) != ((ll'.length : Nat) : Int)) = false := by simp [hn]
    clear hn
    go_enter Tryd.func38, Tryd.ntmps38
    go_wp2
    go_loopw [5] (fun i wr => Hid (∃ k : Nat, k ≤ ll.length ∧ i = .int .i64 k ∧ (∀ j, j < k → rowI ll j = rowI ll' j) ∧ ∃ m, wr = w.drewN m)) (fun i _ => ll.length - (intOf i).toNat)
    case atStart => exact Lib.hid ⟨0, Nat.zero_le _, rfl, fun j hj => absurd hj (Nat.not_lt_zero _), 0, rfl⟩
    case round =>
      obtain ⟨k, hk, rfl, hno, m, rfl⟩ := hrel.out
      have HD := Lib.hid hno
      clear hrel hno
      by_cases hlt : k < ll.length
      · obtain ⟨rfl, hb⟩ := H1.out (by omega)
        obtain ⟨rfl, hb'⟩ := H1'.out (by have := HN.out; omega)
        obtain ⟨ai, ci, hc, hi⟩ := H2.out k hlt
        have hlt' : k < ll'.length := by have := HN.out; omega
        obtain ⟨ai', ci', hc', hi'⟩ := H2'.out k hlt'
        have hml := HM.out k hlt
        have hml' := HM'.out k hlt'
        clear H1 H2 H1' H2'
        cases hq : (rowI ll k == rowI ll' k)
        all_goals
          go_wp2
          go_quiet ((go_at_call 63; exact quiet_drawn_add (eqIntS_d _ _ _ _ _ _ _ (hi.ext ((Ext.refl w).drewN _)) (hi'.ext ((Ext.refl w).drewN _)) hml hml')))
          go_wp2
        · go_ret
          have hf : (ll == ll') = false := by rw [beq_eq_false_iff_ne]; rintro rfl; simp at hq
          exact ⟨by rw [hf]; rfl, by first | exact ⟨_, rfl⟩ | exact drawn2 _ _ _⟩
        · go_roundw
          case rel => exact Lib.hid ⟨k + 1, by omega, by go_num, upto_succ HD.out (by simpa using hq), by first | exact ⟨_, rfl⟩ | exact drawn2 _ _ _⟩
          case measure => simp [intOf]; omega
      · obtain rfl : k = ll.length := by omega
        have hf := Lib.hid (show (ll == ll') = true by rw [beq_iff_eq]; exact ext_rowI ll ll' HN.out HD.out)
        go_wp2
        go_ret
        exact ⟨by rw [hf.out]; rfl, _, rfl⟩
  · have hq := Lib.hid (show (ll == ll') = false by rw [beq_eq_false_iff_ne]; rintro rfl; exact hn rfl)
    have hne : (((ll.length : Nat) : Int) != ((ll'.length : Nat) : Int)) = true := by simp; omega
    clear hn
    go_enter Tryd.func38, Tryd.ntmps38
    go_wp2
    go_ret
    exact ⟨by rw [hq.out]; rfl, 0, rfl⟩

/-- Two models are the same. -/
def eqM (st p q : Int) (ll : List (List Int)) (st' p' q' : Int) (ll' : List (List Int)) : Bool := st == st' && p == p' && q == q' && ll == ll'
theorem eqM_self (st p q : Int) (ll : List (List Int)) : eqM st p q ll st p q ll = true := by simp [eqM]

theorem eqModel_c (st p q : Int) (a a' : Option Addr) (cap cap' : Nat) (ll : List (List Int)) (w : World) (hl : RowsAt w a ll) (hl' : RowsAt w a' ll) (hlen : ll.length ≤ 4611686018427387904)
    (hm : ∀ i, i < ll.length → (rowI ll i).length ≤ 4611686018427387904) :
    Calls Tryd.prog 12 #[modelV st p q a ll.length cap, modelV st p q a' ll.length cap'] w fun e w' => e = .returned (.bool true) ∧ Ext w w' := by
  have HL := Lib.hid hl
  have HL' := Lib.hid hl'
  have HM := Lib.hid hm
  have h1 : (st != st) = false := by simp
  have h2 : (p != p) = false := by simp
  have h3 : (q != q) = false := by simp
  have h4 : (ll == ll) = true := by simp
  clear hl hl' hm
  go_enter Tryd.func12, Tryd.ntmps12
  go_wp2_with fail
  refine (eqIntSS_c a a' cap cap' ll ll _ (HL.out.ext (by (repeat (first | exact Ext.refl _ | assumption | refine Ext.alloc ?_ _ | refine Ext.drewN ?_ _ | refine Ext.drew ?_)))) (HL'.out.ext (by (repeat (first | exact Ext.refl _ | assumption | refine Ext.alloc ?_ _ | refine Ext.drewN ?_ _ | refine Ext.drew ?_)))) hlen hlen HM.out HM.out).mono ?_
  rintro e w1 ⟨rfl, m, rfl⟩
  go_wp2
  go_ret
  exact ⟨rfl, by (repeat (first | exact Ext.refl _ | assumption | refine Ext.alloc ?_ _ | refine Ext.drewN ?_ _ | refine Ext.drew ?_))⟩



end Go.Proofs.YtgpfebpjiddjjaaDoor
