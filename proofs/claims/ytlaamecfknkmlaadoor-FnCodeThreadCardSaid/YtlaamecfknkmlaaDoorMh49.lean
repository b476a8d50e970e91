/- Merged texts: contracts and plain lemmas (LCodeThread). -/
import Derived.Test.YtlaamecfknkmlaaDoorMh38
import Derived.Test.YtlaamecfknkmlaaDoorMh45
import Derived.Test.YtlaamecfknkmlaaDoorMh46
import Derived.Test.YtlaamecfknkmlaaDoorMh43
import Derived.Test.YtlaamecfknkmlaaDoorMh42
import Derived.Test.YtlaamecfknkmlaaDoorMh48
import Derived.Laws.StructEq
/- The law: jumps to jumps can be saved (FnCodeThread). -/
namespace Go.Proofs.YtlaamecfknkmlaaDoor
set_option linter.unusedVariables false
open Go.RowKit Go.Kt

/-- What drawing a code from bytes comes to. -/
def DrewCo (w : World) (e : Ending) (w' : World) : Prop := ∃ v n L, e = .returned v ∧ OwnF w' w.heap.size 61 v n L ∧ n ≤ 42 ∧ Ext w w'
theorem drawCoThread_c (a : Option Addr) (cap : Nat) (l : List Int) (w : World) (h : BytesAt w a l) (hlen : l.length ≤ 1048576) (hcap : l.length ≤ cap) :
    Calls Tryd.prog 12 #[.slice a l.length cap] w (DrewCo w) := by
  go_enter Tryd.func12, Tryd.ntmps12
  go_wp2_with fail
  refine (l20Open_c a cap l _ (h.ext (by (repeat (first | exact Ext.refl _ | assumption | refine Ext.alloc ?_ _ | refine Ext.drewN ?_ _ | refine Ext.drew ?_)))) hlen hcap).mono ?_
  rintro e w1 ⟨g, rfl, hg, hr0, hx0⟩
  have hx1 := Lib.hid (Ext.trans (show Ext w _ by (repeat (first | exact Ext.refl _ | assumption | refine Ext.alloc ?_ _ | refine Ext.drewN ?_ _ | refine Ext.drew ?_))) hx0)
  have hz1 := hx1.out.size
  have HC : Hid (∀ w', Ext w1 w' → Calls Tryd.prog 31 #[.pointer (some ⟨g, 0, none⟩), .int .i64 9] w' (DrewF w' g (0 + 700))) := fun w' hx => l20Instructions_c g 0 9 w' (hr0.ext hx) (by decide)
  have HG : Hid (w.heap.size ≤ g) := hg
  clear hr0 hx0 h hg
  go_wp2_with fail
  refine (HC.out _ (by (repeat (first | exact Ext.refl _ | assumption | refine Ext.alloc ?_ _ | refine Ext.drewN ?_ _ | refine Ext.drew ?_)))).mono ?_
  rintro e w2 ⟨v, n, L, rfl, o, hn, -, ht⟩
  go_wp2
  go_ret
  exact ⟨v, n, L, rfl, o.mono (by first | exact hz1 | (simp; exact hz1)), hn, ht.ext (hx1.out.trans (by (repeat (first | exact Ext.refl _ | assumption | refine Ext.alloc ?_ _ | refine Ext.drewN ?_ _ | refine Ext.drew ?_)))) HG.out⟩
set_option maxRecDepth 100000 in
theorem sameCode_c (a a' : Option Addr) (n cap cap' : Nat) (L : List Int) (w : World) (hl : FlatAt w a n L) (hl' : FlatAt w a' n L) (hn : n ≤ 4194304) :
    Calls Tryd.prog 14 #[.slice a n cap, .slice a' n cap'] w fun e w' => e = .returned (.bool true) ∧ Ext w w' := by
  have HL := Lib.hid hl
  have HL' := Lib.hid hl'
  clear hl hl'
  have hne : (((n : Nat) : Int) != ((n : Nat) : Int)) = false := by simp
  have hcmp : ∀ (x y z : Int) (W : World), (binOp .neq 61 (insV x y z) (insV x y z)).run Tryd.prog W = .ok (.bool false) W := fun x y z W => by
    have hS : Tryd.prog.underlying 61 = some (.struct (Tryd.prog.fieldsOf 61)) := by kernel_rfl
    rw [run_neq_struct, show (10000 : Nat) = 9999 + 1 from rfl, run_equalIn_agg W 9999 61 _ _ hS (by kernel_rfl)]
    have hI : Tryd.prog.underlying 3 = some (.int .i64) := Tryd.underlying3
    simp [Program.fieldsOf, Tryd.underlying61, Op.eqFields, go_sem]
  go_enter Tryd.func14, Tryd.ntmps14
  go_wp2
  go_loopw [5] (fun i wr => Hid (∃ k : Nat, k ≤ n ∧ i = .int .i64 k ∧ Ext w wr)) (fun i _ => n - (intOf i).toNat)
  case atStart => exact Lib.hid ⟨0, Nat.zero_le _, rfl, by (repeat (first | exact Ext.refl _ | assumption | refine Ext.alloc ?_ _ | refine Ext.drewN ?_ _ | refine Ext.drew ?_))⟩
  case round =>
    obtain ⟨k, hk, rfl, hx⟩ := hrel.out
    clear hrel
    have HX := Lib.hid hx
    by_cases hlt : k < n
    · obtain ⟨b, off, rfl, hb, hc⟩ := (HL.out.ext hx).cells (by omega)
      obtain ⟨c0, c1, c2⟩ := hc k hlt
      obtain ⟨b', off', rfl, hb', hc'⟩ := (HL'.out.ext hx).cells (by omega)
      obtain ⟨c0', c1', c2'⟩ := hc' k hlt
      clear hc hc' hx
      go_wp2
      go_quiet (fail)
      go_wp2
      go_roundw
      case rel => exact Lib.hid ⟨k + 1, by omega, by go_num, HX.out.trans (by (repeat (first | exact Ext.refl _ | assumption | refine Ext.alloc ?_ _ | refine Ext.drewN ?_ _ | refine Ext.drew ?_)))⟩
      case measure => simp [intOf]; omega
    · obtain rfl : k = n := by omega
      go_wp2
      go_ret
      exact ⟨rfl, hx.trans (by (repeat (first | exact Ext.refl _ | assumption | refine Ext.alloc ?_ _ | refine Ext.drewN ?_ _ | refine Ext.drew ?_)))⟩
/-- A code and the code with its jumps saved: what both runs come to. -/
theorem cr_pair {st : Nat} {p q : Int} {ll : List (List Int)} {n : Nat} {L : List Int} {s : Nat} (hv : cvB n L = true) {x y x' y' : Int} (h : CrIs st p q ll n L s x y) (h' : CrIs st p q ll n (thrTo n L n) s x' y') : x = x' ∧ y' ≤ y := by
  have hv' := thr_valid hv
  unfold CrIs crB at h h'
  rw [hv, Bool.and_true] at h
  rw [hv', Bool.and_true] at h'
  cases hb : certF st p q ll && inB (s : Int) 0 ((st : Int) - 1)
  · rw [hb] at h h'
    simp only [Bool.false_eq_true, if_false] at h h'
    exact ⟨h.1.trans h'.1.symm, by rw [h.2, h'.2]; exact Int.le_refl _⟩
  · rw [hb] at h h'
    simp only [if_true, Int.toNat_natCast] at h h'
    rw [Bool.and_eq_true] at hb
    have hs : s < st := by have := hb.2; simp [inB] at this; omega
    exact thr_run hv (certF_one hb.1) hs h h'
set_option maxRecDepth 100000 in
set_option maxHeartbeats 1000000 in
theorem fnCodeThread_c (a0 : Option Addr) (c0 : Nat) (l0 : List Int) (a1 : Option Addr) (c1 : Nat) (l1 : List Int) (w : World) (h0 : BytesAt w a0 l0) (hlen0 : l0.length ≤ 9223372036854775807) (hcap0 : l0.length ≤ c0)
    (h1 : BytesAt w a1 l1) (hlen1 : l1.length ≤ 9223372036854775807) (hcap1 : l1.length ≤ c1) (ht : TabW w) :
    Calls Tryd.prog 4 #[.slice a0 l0.length c0, .slice a1 l1.length c1] w fun e w' => e = .returned (.bool true) ∧ Ext w w' := by
  by_cases hb0 : l0.length ≤ 1048576
  · by_cases hb1 : l1.length ≤ 1048576
    · have H0 := Lib.hid h0
      have H1 := Lib.hid h1
      have HT := Lib.hid ht
      clear h0 h1 ht
      go_enter Tryd.func4, Tryd.ntmps4
      go_wp2_with fail
      refine (drawCoThread_c a0 c0 l0 _ H0.out hb0 hcap0).mono ?_
      rintro e w1 ⟨v1, n, L, rfl, o1, hn, hx1⟩
      obtain ⟨av, cv, rfl, hf1⟩ := o1.shape
      have HX1 := Lib.hid hx1
      have HF1 := Lib.hid hf1
      have hn4 : n ≤ 4194304 := by omega
      clear o1 hx1 hf1
      go_wp2_with fail
      refine (iCodeThread_c av n cv L _ HF1.out hn4).mono ?_
      rintro e w2 ⟨v2, rfl, o2, hx2⟩
      obtain ⟨a2, c2, rfl, hf2⟩ := o2.shape
      have HX2 := Lib.hid (HX1.out.trans hx2)
      have HF1b := Lib.hid (HF1.out.ext hx2)
      have HF2 := Lib.hid hf2
      clear o2 hx2 hf2 HX1 HF1
      go_wp2_with fail
      refine (sCodeThread_c av n cv L _ HF1b.out hn4).mono ?_
      rintro e w3 ⟨v3, rfl, o3, hx3⟩
      obtain ⟨a3, c3, rfl, hf3⟩ := o3.shape
      have HX3 := Lib.hid (HX2.out.trans hx3)
      have HF1c := Lib.hid (HF1b.out.ext hx3)
      have HF2c := Lib.hid (HF2.out.ext hx3)
      have HF3 := Lib.hid hf3
      have hcn : cvN n L ≤ 4194304 := by unfold cvN; split <;> omega
      clear o3 hx3 hf3 HX2 HF1b HF2
      go_wp2_with fail
      refine (sameCode_c a2 a3 (cvN n L) c2 c3 (thF n L) _ HF2c.out HF3.out hcn).mono ?_
      rintro e w4 ⟨rfl, hx4⟩
      have HX4 := Lib.hid (HX3.out.trans hx4)
      have HF1d := Lib.hid (HF1c.out.ext hx4)
      have HF2d := Lib.hid (HF2c.out.ext hx4)
      clear hx4 HF3 HX3 HF1c HF2c
      go_wp2_with fail
      refine (sCodeValid_c av n cv L _ HF1d.out hn4).mono ?_
      rintro e w5 ⟨rfl, hx5⟩
      have HX5 := Lib.hid (HX4.out.trans hx5)
      have HF1e := Lib.hid (HF1d.out.ext hx5)
      have HF2e := Lib.hid (HF2d.out.ext hx5)
      clear hx5 HX4 HF1d HF2d
      cases hv : cvB n L
      · have hc0 : cvN n L = 0 := cvN_false hv
        rw [hc0]
        clear hc0 hcn
        go_wp2_with (go_at_call 8; refine (alive_c _).mono ?_; rintro e w6 ⟨rfl, rfl⟩)
        go_ret
        exact ⟨rfl, HX5.out⟩
      · have hcn' : cvN n L = n := cvN_true hv
        have hth : thF n L = thrTo n L n := by unfold thF; rw [hv]; rfl
        rw [hcn', hth] at HF2e
        rw [hcn']
        have HV := Lib.hid hv
        have HV2 := Lib.hid (thr_valid hv)
        have HTT : Hid (thF n (thrTo n L n) = thrTo n L n) := by
          unfold Hid thF; rw [HV2.out]; simp only [if_true]; exact thr_again hv
        clear hcn' hth hv hcn
        go_wp2_with fail
        refine (drawCodeRun_c a1 c1 l1 _ (H1.out.ext HX5.out) hb1 hcap1).mono ?_
        rintro e w6 ⟨st, p, q, am, cm, ll, vv, xx, rfl, hst, hrw, h3, h8, hx6⟩
        have HX6 := Lib.hid (HX5.out.trans hx6)
        have HF1f := Lib.hid (HF1e.out.ext hx6)
        have HF2f := Lib.hid (HF2e.out.ext hx6)
        have HRW := Lib.hid hrw
        have H8 := Lib.hid (fun i hi => Nat.le_trans (h8 i hi) (show 8 ≤ 4194304 by omega))
        have hb6 := Lib.hid (box_cr w6 st p q (.slice am ll.length cm))
        have h34 : ll.length ≤ 4194304 := by omega
        clear hx6 hrw h8 HX5 HF1e HF2e
        go_wp2
        go_loopw [10] (fun i wr => Hid (∃ k : Nat, k ≤ st ∧ i = .int .i64 k ∧ Ext (w6.alloc (.cells #[.int .i64 st, .int .i64 p, .int .i64 q, .slice am ll.length cm] 25)) wr)) (fun i _ => st - (intOf i).toNat)
        case atStart => exact Lib.hid ⟨0, Nat.zero_le _, rfl, Ext.refl _⟩
        case round =>
          obtain ⟨k, hk, rfl, hx⟩ := hrel.out
          have HX := Lib.hid hx
          have HY : Hid (Ext w6 wr) := ((Ext.refl w6).alloc _).trans hx
          clear hrel hx
          obtain ⟨k0, k1, k2, k3⟩ := (hb6.out.ext HX.out).out
          have zb := (hb6.out.ext HX.out).lt
          by_cases hlt : k < st
          · go_wp2_with fail
            refine (iCodeRun_c st p q am cm ll av n cv L k _ (HRW.out.ext (HY.out.trans (by (repeat (first | exact Ext.refl _ | assumption | refine Ext.alloc ?_ _ | refine Ext.drewN ?_ _ | refine Ext.drew ?_))))) h34 H8.out (HF1f.out.ext (HY.out.trans (by (repeat (first | exact Ext.refl _ | assumption | refine Ext.alloc ?_ _ | refine Ext.drewN ?_ _ | refine Ext.drew ?_))))) hn4 (HT.out.ext (HX6.out.trans (HY.out.trans (by (repeat (first | exact Ext.refl _ | assumption | refine Ext.alloc ?_ _ | refine Ext.drewN ?_ _ | refine Ext.drew ?_))))))).mono ?_
            rintro e w7 ⟨x7, y7, rfl, hr7, hx7⟩
            have HZ7 := Lib.hid (Ext.trans (show Ext wr _ by (repeat (first | exact Ext.refl _ | assumption | refine Ext.alloc ?_ _ | refine Ext.drewN ?_ _ | refine Ext.drew ?_))) hx7)
            have HR7 := Lib.hid hr7
            clear hx7 hr7 k0 k1 k2 k3 zb
            obtain ⟨k0, k1, k2, k3⟩ := (hb6.out.ext (HX.out.trans HZ7.out)).out
            have zb := (hb6.out.ext (HX.out.trans HZ7.out)).lt
            go_wp2_with fail
            refine (iCodeRun_c st p q am cm ll a2 n c2 (thrTo n L n) k _ (HRW.out.ext (HY.out.trans (HZ7.out.trans (by (repeat (first | exact Ext.refl _ | assumption | refine Ext.alloc ?_ _ | refine Ext.drewN ?_ _ | refine Ext.drew ?_)))))) h34 H8.out (HF2f.out.ext (HY.out.trans (HZ7.out.trans (by (repeat (first | exact Ext.refl _ | assumption | refine Ext.alloc ?_ _ | refine Ext.drewN ?_ _ | refine Ext.drew ?_)))))) hn4 (HT.out.ext (HX6.out.trans (HY.out.trans (HZ7.out.trans (by (repeat (first | exact Ext.refl _ | assumption | refine Ext.alloc ?_ _ | refine Ext.drewN ?_ _ | refine Ext.drew ?_)))))))).mono ?_
            rintro e w8 ⟨x8, y8, rfl, hr8, hx8⟩
            obtain ⟨rfl, hy⟩ := cr_pair HV.out HR7.out hr8
            have HZ8 := Lib.hid (HZ7.out.trans (Ext.trans (show Ext w7 _ by (repeat (first | exact Ext.refl _ | assumption | refine Ext.alloc ?_ _ | refine Ext.drewN ?_ _ | refine Ext.drew ?_))) hx8))
            have hnx : (x7 != x7) = false := by simp
            clear hx8 hr8 HR7 HZ7 k0 k1 k2 k3 zb
            go_wp2
            go_roundw
            case rel => exact Lib.hid ⟨k + 1, by omega, by go_num, HX.out.trans (HZ8.out.trans (by (repeat (first | exact Ext.refl _ | assumption | refine Ext.alloc ?_ _ | refine Ext.drewN ?_ _ | refine Ext.drew ?_))))⟩
            case measure => simp [intOf]; omega
          · obtain rfl : k = st := by omega
            have CV : Hid (∀ w', Ext wr w' → Calls Tryd.prog 19 #[.slice a2 n c2] w' fun e w'' => e = .returned (.bool true) ∧ Ext w' w'') := fun w' hx => by
              have := iCodeValid_c a2 n c2 (thrTo n L n) w' (HF2f.out.ext (HY.out.trans hx)) hn4
              rw [HV2.out] at this; exact this
            have CT : Hid (∀ w', Ext wr w' → Calls Tryd.prog 13 #[.slice a2 n c2] w' (RetF 61 w' n (thrTo n L n))) := fun w' hx => by
              have := iCodeThread_c a2 n c2 (thrTo n L n) w' (HF2f.out.ext (HY.out.trans hx)) hn4
              rw [HTT.out, cvN_true HV2.out] at this; exact this
            go_wp2_with fail
            refine (CV.out _ (by (repeat (first | exact Ext.refl _ | assumption | refine Ext.alloc ?_ _ | refine Ext.drewN ?_ _ | refine Ext.drew ?_)))).mono ?_
            rintro e w7 ⟨rfl, hx7⟩
            have HZ7 := Lib.hid (Ext.trans (show Ext wr _ by (repeat (first | exact Ext.refl _ | assumption | refine Ext.alloc ?_ _ | refine Ext.drewN ?_ _ | refine Ext.drew ?_))) hx7)
            clear hx7 k0 k1 k2 k3 zb
            go_wp2_with fail
            refine (CT.out _ (HZ7.out.trans (by (repeat (first | exact Ext.refl _ | assumption | refine Ext.alloc ?_ _ | refine Ext.drewN ?_ _ | refine Ext.drew ?_))))).mono ?_
            rintro e w8 ⟨v8, rfl, o8, hx8⟩
            obtain ⟨a8, c8, rfl, hf8⟩ := o8.shape
            have HZ8 := Lib.hid (HZ7.out.trans (Ext.trans (show Ext w7 _ by (repeat (first | exact Ext.refl _ | assumption | refine Ext.alloc ?_ _ | refine Ext.drewN ?_ _ | refine Ext.drew ?_))) hx8))
            have HF8 := Lib.hid hf8
            clear hx8 o8 hf8
            go_wp2_with fail
            refine (sameCode_c a8 a2 n c8 c2 (thrTo n L n) _ (HF8.out.ext (by (repeat (first | exact Ext.refl _ | assumption | refine Ext.alloc ?_ _ | refine Ext.drewN ?_ _ | refine Ext.drew ?_)))) (HF2f.out.ext (HY.out.trans (HZ8.out.trans (by (repeat (first | exact Ext.refl _ | assumption | refine Ext.alloc ?_ _ | refine Ext.drewN ?_ _ | refine Ext.drew ?_)))))) hn4).mono ?_
            rintro e w9 ⟨rfl, hx9⟩
            have HZ9 := Lib.hid (HZ8.out.trans (Ext.trans (show Ext w8 _ by (repeat (first | exact Ext.refl _ | assumption | refine Ext.alloc ?_ _ | refine Ext.drewN ?_ _ | refine Ext.drew ?_))) hx9))
            clear hx9
            go_wp2
            go_ret
            exact ⟨rfl, HX6.out.trans (HY.out.trans (HZ9.out.trans (by (repeat (first | exact Ext.refl _ | assumption | refine Ext.alloc ?_ _ | refine Ext.drewN ?_ _ | refine Ext.drew ?_)))))⟩
    · go_enter Tryd.func4, Tryd.ntmps4
      go_wp2
      go_ret
      exact ⟨rfl, Ext.refl _⟩
  · go_enter Tryd.func4, Tryd.ntmps4
    go_wp2
    go_ret
    exact ⟨rfl, Ext.refl _⟩
end Go.Proofs.YtlaamecfknkmlaaDoor
