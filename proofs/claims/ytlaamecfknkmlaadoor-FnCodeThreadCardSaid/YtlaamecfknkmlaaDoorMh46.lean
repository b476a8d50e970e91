/- Merged texts: contracts and plain lemmas (Cc). -/
import Derived.Test.YtlaamecfknkmlaaDoorMh23
import Derived.Test.YtlaamecfknkmlaaDoorMh40
import Derived.Lib.SliceRun
/- Contracts: jumps to jumps. -/
namespace Go.Proofs.YtlaamecfknkmlaaDoor
set_option linter.unusedVariables false
open Go.RowKit Go.Kt

set_option maxRecDepth 100000 in
theorem l8Follow_c (a : Option Addr) (n cap : Nat) (L : List Int) (p : Nat) (w : World) (hl : FlatAt w a n L) (hn : n ≤ 40) (hv : ∀ i, i < n → insB n (kd L i) (ag L i) (tg L i) = true) (hp : p < n) :
    Calls Tryd.prog 33 #[.slice a n cap, .int .i64 p] w fun e w' => e = .returned (.int .i64 (hopI L (n + 1) p)) ∧ w = w' := by
  obtain ⟨b, off, rfl, hb, hc⟩ := hl.cells (by omega)
  have HC := Lib.hid hc
  have HV := Lib.hid hv
  clear hc hv hl
  go_enter Tryd.func33, Tryd.ntmps33
  go_wp2
  go_loop [1, 5] (fun t i => Hid (∃ m : Nat, m ≤ n + 1 ∧ i = .int .i64 m ∧ t = .int .i64 (pos L p m) ∧ ∀ j, j < m → kd L (pos L p j) = 2)) (fun _ i => n + 1 - (intOf i).toNat)
  case atStart => exact Lib.hid ⟨0, by omega, rfl, rfl, fun j hj => absurd hj (Nat.not_lt_zero _)⟩
  case round =>
    obtain ⟨m, hm, rfl, rfl, hj⟩ := hrel.out
    clear hrel
    have HJ := Lib.hid hj
    by_cases hlt : m ≤ n
    · have hpl := pos_lt HV.out hp m hj
      obtain ⟨c0, c1, c2⟩ := HC.out _ hpl
      clear hj c1
      have hnext : Hid (pos L p (m + 1) = (nth L (pos L p m * 3 + 2)).toNat) := rfl
      have hstep : Hid (nth L (pos L p m * 3) = 2 → ∀ j, j < m + 1 → kd L (pos L p j) = 2) := fun h => upto_succ HJ.out h
      have hfin : Hid (nth L (pos L p m * 3) ≠ 2 → hopI L (n + 1) p = ((pos L p m : Nat) : Int)) := fun h => hopI_some HJ.out h (by omega)
      have hgo : Hid (nth L (pos L p m * 3) = 2 → 0 ≤ nth L (pos L p m * 3 + 2)) := fun h => (insB_goes (HV.out _ hpl) (.inr h)).1
      generalize pos L p m = X at *
      generalize nth L (X * 3) = K at *
      generalize nth L (X * 3 + 2) = T at *
      by_cases hk : K = 2
      · have h0 := hgo.out hk
        subst hk
        go_wp2
        go_round
        case rel => exact Lib.hid ⟨m + 1, by omega, by go_num, by rw [hnext.out, Int.toNat_of_nonneg h0], hstep.out rfl⟩
        case measure => simp [intOf]; omega
      · have hk2 : (K != 2) = true := by simp [hk]
        go_wp2
        go_ret
        exact ⟨by rw [hfin.out hk]; rfl, rfl⟩
    · obtain rfl : m = n + 1 := by omega
      have hfin := Lib.hid (hopI_none hj)
      clear hj
      go_wp2
      go_ret
      exact ⟨by rw [hfin.out]; rfl, rfl⟩
set_option maxRecDepth 100000 in
set_option maxHeartbeats 2000000 in
theorem sCodeThread_c (a : Option Addr) (n cap : Nat) (L : List Int) (w : World) (hl : FlatAt w a n L) (hlen : n ≤ 4194304) :
    Calls Tryd.prog 15 #[.slice a n cap] w (RetF 61 w (cvN n L) (thF n L)) := by
  have HL := Lib.hid hl
  have HLn := Lib.hid hl.len
  clear hl
  go_enter Tryd.func15, Tryd.ntmps15
  go_wp2
  go_loopw [3, 4] (fun v i wr => Hid (∃ k : Nat, k ≤ n ∧ i = .int .i64 k ∧ OwnF wr w.heap.size 61 v k (frontTo (thrTo n L n) k) ∧ Ext w wr ∧ (cvB n L = true ∨ k = 0))) (fun _ i _ => n - (intOf i).toNat)
  case atStart => exact Lib.hid ⟨0, Nat.zero_le _, rfl, by rw [frontTo_zero]; exact OwnF.empty _ _, by (repeat (first | exact Ext.refl _ | assumption | refine Ext.alloc ?_ _ | refine Ext.drewN ?_ _ | refine Ext.drew ?_)), .inr rfl⟩
  case round =>
    obtain ⟨k, hk, rfl, ho, hx, hor⟩ := hrel.out
    clear hrel
    by_cases hlt : k < n
    · have HO := Lib.hid ho
      have HX := Lib.hid hx
      clear ho hx
      cases hcv : cvB n L
      · obtain rfl : k = 0 := by
          rcases hor with h | h
          · rw [hcv] at h; cases h
          · exact h
        clear hor
        go_wp2_with fail
        refine (sCodeValid_c a n cap L _ (HL.out.ext (HX.out.trans (by (repeat (first | exact Ext.refl _ | assumption | refine Ext.alloc ?_ _ | refine Ext.drewN ?_ _ | refine Ext.drew ?_))))) hlen).mono ?_
        rw [hcv]
        rintro e w1 ⟨rfl, y⟩
        have ho1 := HO.out.ext (Ext.trans (by (repeat (first | exact Ext.refl _ | assumption | refine Ext.alloc ?_ _ | refine Ext.drewN ?_ _ | refine Ext.drew ?_))) y)
        have hx1 := HX.out.trans (Ext.trans (by (repeat (first | exact Ext.refl _ | assumption | refine Ext.alloc ?_ _ | refine Ext.drewN ?_ _ | refine Ext.drew ?_))) y)
        rw [frontTo_zero] at ho1
        clear y
        go_wp2
        go_ret
        refine ⟨_, rfl, ?_, hx1⟩
        have e : thF n L = [] := by unfold thF; rw [hcv]; rfl
        rw [e, cvN_false hcv]
        exact ho1
      · obtain ⟨hn1, hn40, -, hall⟩ := cvB_bounds hcv
        have HV := Lib.hid hall
        clear hor hall
        go_wp2_with fail
        refine (sCodeValid_c a n cap L _ (HL.out.ext (HX.out.trans (by (repeat (first | exact Ext.refl _ | assumption | refine Ext.alloc ?_ _ | refine Ext.drewN ?_ _ | refine Ext.drew ?_))))) hlen).mono ?_
        rw [hcv]
        rintro e w1 ⟨rfl, y⟩
        have HO1 := Lib.hid (HO.out.ext (Ext.trans (by (repeat (first | exact Ext.refl _ | assumption | refine Ext.alloc ?_ _ | refine Ext.drewN ?_ _ | refine Ext.drew ?_))) y))
        have hx1 := HX.out.trans (Ext.trans (by (repeat (first | exact Ext.refl _ | assumption | refine Ext.alloc ?_ _ | refine Ext.drewN ?_ _ | refine Ext.drew ?_))) y)
        have HX1 := Lib.hid hx1
        have hfl := HL.out.ext hx1
        obtain ⟨b, off, rfl, hb, hc⟩ := hfl.cells (by omega)
        obtain ⟨c0, c1, c2⟩ := hc k hlt
        have HFL := Lib.hid hfl
        have hins := insB_goes (HV.out k hlt)
        have hth : Hid (kd L k = 1 ∨ kd L k = 2 → 0 ≤ hopI L (n + 1) (tg L k).toNat → thr n L k = hopI L (n + 1) (tg L k).toNat) := thr_some
        have htn : Hid (kd L k = 1 ∨ kd L k = 2 → hopI L (n + 1) (tg L k).toNat < 0 → thr n L k = tg L k) := thr_none
        have hts : Hid (¬ (kd L k = 1 ∨ kd L k = 2) → thr n L k = tg L k) := thr_same n L k
        have hfr : Hid (frontTo (thrTo n L n) (k + 1) = frontTo (thrTo n L n) k ++ [kd L k, ag L k, thr n L k]) := by
          have h3 := thr_three n L k hlt
          unfold Hid
          rw [frontTo_succ _ n k (thrTo_length n L n) hlt, h3.1, h3.2.1, h3.2.2]
          rfl
        have hfo := fun (q : Nat) (hq : q < n) (w0 : World) (hw0 : FlatAt w0 (some ⟨b, off, none⟩) n L) => l8Follow_c (some ⟨b, off, none⟩) n cap L q w0 hw0 hn40 HV.out hq
        have HFO := Lib.hid hfo
        unfold kd tg at hins hth htn hts
        unfold kd ag at hfr
        clear hc y hx1 hfl hfo
        generalize nth L (k * 3) = K at *
        generalize nth L (k * 3 + 1) = A at *
        generalize nth L (k * 3 + 2) = T at *
        by_cases hK : K = 1 ∨ K = 2
        · obtain ⟨hT0, hTn⟩ := hins hK
          obtain ⟨P, rfl⟩ := Int.eq_ofNat_of_zero_le hT0
          rw [Int.toNat_natCast] at hth htn
          have hPn : P < n := by omega
          have hth' : Hid (0 ≤ hopI L (n + 1) P → thr n L k = hopI L (n + 1) P) := fun h => hth.out hK h
          have htn' : Hid (hopI L (n + 1) P < 0 → thr n L k = (P : Int)) := fun h => htn.out hK h
          have HFO2 := Lib.hid (fun w0 hw0 => HFO.out P hPn w0 hw0)
          clear hth htn hts hins hT0 hTn
          generalize hopI L (n + 1) P = H at *
          have hzx := HX1.out.size
          rcases hK with rfl | rfl
          · by_cases hH : 0 ≤ H
            · have ht := hth'.out hH
              go_wp2_with (first | (go_at_call 33; refine (HFO2.out _ (HFL.out.ext (by (repeat (first | exact Ext.refl _ | assumption | refine Ext.alloc ?_ _ | refine Ext.drewN ?_ _ | refine Ext.drew ?_))))).mono ?_; rintro e w' ⟨rfl, rfl⟩) | (at_builtin; refine want_append_ins (by rfl) _ _ _ rfl w.heap.size 61 Tryd.underlying35 infoIns _ k (frontTo (thrTo n L n) k) rfl ?ho _ 1 A H rfl ?c0 ?c1 ?c2 (by omega) ?hB ?_))
              case ho => exact HO1.out.ext (by (repeat (first | exact Ext.refl _ | assumption | refine Ext.alloc ?_ _ | refine Ext.drewN ?_ _ | refine Ext.drew ?_)))
              case c0 => simp [go_sem]
              case c1 => simp [go_sem]
              case c2 => simp [go_sem]
              case hB => simp; omega
              intro v' w' ho' hg'
              have hx' := OwnF.grown (HO1.out.ext (by (repeat (first | exact Ext.refl _ | assumption | refine Ext.alloc ?_ _ | refine Ext.drewN ?_ _ | refine Ext.drew ?_)))) (HX1.out.trans (by (repeat (first | exact Ext.refl _ | assumption | refine Ext.alloc ?_ _ | refine Ext.drewN ?_ _ | refine Ext.drew ?_)))) hg'
              have hfin := Lib.hid (show OwnF w' w.heap.size 61 v' (k + 1) (frontTo (thrTo n L n) (k + 1)) by rw [hfr.out, ht]; exact ho')
              clear ho' hg'
              go_wp2
              go_roundw
              case rel => exact Lib.hid ⟨k + 1, by omega, by go_num, hfin.out, hx', by first | exact .inl hcv | simp⟩
              case measure => simp [intOf]; omega
            · have ht := htn'.out (by omega)
              go_wp2_with (first | (go_at_call 33; refine (HFO2.out _ (HFL.out.ext (by (repeat (first | exact Ext.refl _ | assumption | refine Ext.alloc ?_ _ | refine Ext.drewN ?_ _ | refine Ext.drew ?_))))).mono ?_; rintro e w' ⟨rfl, rfl⟩) | (at_builtin; refine want_append_ins (by rfl) _ _ _ rfl w.heap.size 61 Tryd.underlying35 infoIns _ k (frontTo (thrTo n L n) k) rfl ?ho _ 1 A (P : Int) rfl ?c0 ?c1 ?c2 (by omega) ?hB ?_))
              case ho => exact HO1.out.ext (by (repeat (first | exact Ext.refl _ | assumption | refine Ext.alloc ?_ _ | refine Ext.drewN ?_ _ | refine Ext.drew ?_)))
              case c0 => simp [go_sem]
              case c1 => simp [go_sem]
              case c2 => simp [go_sem]
              case hB => simp; omega
              intro v' w' ho' hg'
              have hx' := OwnF.grown (HO1.out.ext (by (repeat (first | exact Ext.refl _ | assumption | refine Ext.alloc ?_ _ | refine Ext.drewN ?_ _ | refine Ext.drew ?_)))) (HX1.out.trans (by (repeat (first | exact Ext.refl _ | assumption | refine Ext.alloc ?_ _ | refine Ext.drewN ?_ _ | refine Ext.drew ?_)))) hg'
              have hfin := Lib.hid (show OwnF w' w.heap.size 61 v' (k + 1) (frontTo (thrTo n L n) (k + 1)) by rw [hfr.out, ht]; exact ho')
              clear ho' hg'
              go_wp2
              go_roundw
              case rel => exact Lib.hid ⟨k + 1, by omega, by go_num, hfin.out, hx', by first | exact .inl hcv | simp⟩
              case measure => simp [intOf]; omega
          · by_cases hH : 0 ≤ H
            · have ht := hth'.out hH
              go_wp2_with (first | (go_at_call 33; refine (HFO2.out _ (HFL.out.ext (by (repeat (first | exact Ext.refl _ | assumption | refine Ext.alloc ?_ _ | refine Ext.drewN ?_ _ | refine Ext.drew ?_))))).mono ?_; rintro e w' ⟨rfl, rfl⟩) | (at_builtin; refine want_append_ins (by rfl) _ _ _ rfl w.heap.size 61 Tryd.underlying35 infoIns _ k (frontTo (thrTo n L n) k) rfl ?ho _ 2 A H rfl ?c0 ?c1 ?c2 (by omega) ?hB ?_))
              case ho => exact HO1.out.ext (by (repeat (first | exact Ext.refl _ | assumption | refine Ext.alloc ?_ _ | refine Ext.drewN ?_ _ | refine Ext.drew ?_)))
              case c0 => simp [go_sem]
              case c1 => simp [go_sem]
              case c2 => simp [go_sem]
              case hB => simp; omega
              intro v' w' ho' hg'
              have hx' := OwnF.grown (HO1.out.ext (by (repeat (first | exact Ext.refl _ | assumption | refine Ext.alloc ?_ _ | refine Ext.drewN ?_ _ | refine Ext.drew ?_)))) (HX1.out.trans (by (repeat (first | exact Ext.refl _ | assumption | refine Ext.alloc ?_ _ | refine Ext.drewN ?_ _ | refine Ext.drew ?_)))) hg'
              have hfin := Lib.hid (show OwnF w' w.heap.size 61 v' (k + 1) (frontTo (thrTo n L n) (k + 1)) by rw [hfr.out, ht]; exact ho')
              clear ho' hg'
              go_wp2
              go_roundw
              case rel => exact Lib.hid ⟨k + 1, by omega, by go_num, hfin.out, hx', by first | exact .inl hcv | simp⟩
              case measure => simp [intOf]; omega
            · have ht := htn'.out (by omega)
              go_wp2_with (first | (go_at_call 33; refine (HFO2.out _ (HFL.out.ext (by (repeat (first | exact Ext.refl _ | assumption | refine Ext.alloc ?_ _ | refine Ext.drewN ?_ _ | refine Ext.drew ?_))))).mono ?_; rintro e w' ⟨rfl, rfl⟩) | (at_builtin; refine want_append_ins (by rfl) _ _ _ rfl w.heap.size 61 Tryd.underlying35 infoIns _ k (frontTo (thrTo n L n) k) rfl ?ho _ 2 A (P : Int) rfl ?c0 ?c1 ?c2 (by omega) ?hB ?_))
              case ho => exact HO1.out.ext (by (repeat (first | exact Ext.refl _ | assumption | refine Ext.alloc ?_ _ | refine Ext.drewN ?_ _ | refine Ext.drew ?_)))
              case c0 => simp [go_sem]
              case c1 => simp [go_sem]
              case c2 => simp [go_sem]
              case hB => simp; omega
              intro v' w' ho' hg'
              have hx' := OwnF.grown (HO1.out.ext (by (repeat (first | exact Ext.refl _ | assumption | refine Ext.alloc ?_ _ | refine Ext.drewN ?_ _ | refine Ext.drew ?_)))) (HX1.out.trans (by (repeat (first | exact Ext.refl _ | assumption | refine Ext.alloc ?_ _ | refine Ext.drewN ?_ _ | refine Ext.drew ?_)))) hg'
              have hfin := Lib.hid (show OwnF w' w.heap.size 61 v' (k + 1) (frontTo (thrTo n L n) (k + 1)) by rw [hfr.out, ht]; exact ho')
              clear ho' hg'
              go_wp2
              go_roundw
              case rel => exact Lib.hid ⟨k + 1, by omega, by go_num, hfin.out, hx', by first | exact .inl hcv | simp⟩
              case measure => simp [intOf]; omega
        · have hzx := HX1.out.size
          have ht := hts.out hK
          have e1 : (K == 1) = false := by simp; omega
          have e2 : (K == 2) = false := by simp; omega
          clear hth htn hts hins hK
          go_wp2_with (first | (at_builtin; refine want_append_ins (by rfl) _ _ _ rfl w.heap.size 61 Tryd.underlying35 infoIns _ k (frontTo (thrTo n L n) k) rfl ?ho _ K A T rfl ?c0 ?c1 ?c2 (by omega) ?hB ?_))
          case ho => exact HO1.out.ext (by (repeat (first | exact Ext.refl _ | assumption | refine Ext.alloc ?_ _ | refine Ext.drewN ?_ _ | refine Ext.drew ?_)))
          case c0 => simp [go_sem]
          case c1 => simp [go_sem]
          case c2 => simp [go_sem]
          case hB => simp; omega
          intro v' w' ho' hg'
          have hx' := OwnF.grown (HO1.out.ext (by (repeat (first | exact Ext.refl _ | assumption | refine Ext.alloc ?_ _ | refine Ext.drewN ?_ _ | refine Ext.drew ?_)))) (HX1.out.trans (by (repeat (first | exact Ext.refl _ | assumption | refine Ext.alloc ?_ _ | refine Ext.drewN ?_ _ | refine Ext.drew ?_)))) hg'
          have hfin := Lib.hid (show OwnF w' w.heap.size 61 v' (k + 1) (frontTo (thrTo n L n) (k + 1)) by rw [hfr.out, ht]; exact ho')
          clear ho' hg'
          go_wp2
          go_roundw
          case rel => exact Lib.hid ⟨k + 1, by omega, by go_num, hfin.out, hx', by first | exact .inl hcv | simp⟩
          case measure => simp [intOf]; omega
    · obtain rfl : k = n := by omega
      have hlen := thrTo_length k L k
      have hfe := frontTo_end (thrTo k L k) k hlen
      rw [hfe] at ho
      cases hcv : cvB k L
      · obtain rfl : k = 0 := by
          rcases hor with h | h
          · rw [hcv] at h; cases h
          · exact h
        have e : thF 0 L = [] := by unfold thF; rw [hcv]; rfl
        have e2 : thrTo 0 L 0 = [] := List.eq_nil_of_length_eq_zero (thrTo_length 0 L 0)
        have hN := Lib.hid (cvN_false hcv)
        rw [e2, ← e] at ho
        have HO := Lib.hid ho
        clear hor hfe hlen ho e e2 hcv
        go_wp2
        go_ret
        exact ⟨_, rfl, by rw [hN.out]; exact HO.out, hx⟩
      · have e : thF k L = thrTo k L k := by unfold thF; rw [hcv]; rfl
        have hN := Lib.hid (cvN_true hcv)
        rw [← e] at ho
        have HO := Lib.hid ho
        clear hor hfe hlen ho e hcv
        go_wp2
        go_ret
        exact ⟨_, rfl, by rw [hN.out]; exact HO.out, hx⟩
set_option maxRecDepth 100000 in
theorem cloneIns_c (a : Option Addr) (n cap : Nat) (L : List Int) (w : World) (hl : FlatAt w a n L) (hn : 0 < n) (hlen : n ≤ 4194304) :
    Calls Tryd.prog 64 #[.slice a n cap] w (RetF 61 w n L) := by
  obtain ⟨b, off, rfl, hb, -⟩ := hl.cells hn
  have HL := Lib.hid hl
  have hnil : ∀ W : World, (binOp .eql 35 (.slice (some ⟨b, off, none⟩) n cap) (.slice none 0 0)).run Tryd.prog W = .ok (.bool false) W := fun W => Lib.run_eql_slice_nil W _ _ (some ⟨b, off, none⟩) n cap 0 0 Tryd.underlying35
  clear hl
  go_enter Tryd.func64, Tryd.ntmps64
  go_wp2_with (at_builtin; refine want_append_inss (by rfl) _ _ _ rfl w.heap.size 61 Tryd.underlying35 infoIns _ 0 [] rfl ?ho _ n _ L rfl ?hi hn (by omega) ?hB ?_)
  case ho => exact OwnF.empty _ _
  case hi => exact HL.out.ext (by (repeat (first | exact Ext.refl _ | assumption | refine Ext.alloc ?_ _ | refine Ext.drewN ?_ _ | refine Ext.drew ?_)))
  case hB => simp
  intro v' w' ho' hg'
  have hx' := OwnF.grown (OwnF.empty w 61) (by (repeat (first | exact Ext.refl _ | assumption | refine Ext.alloc ?_ _ | refine Ext.drewN ?_ _ | refine Ext.drew ?_))) hg'
  have HO := Lib.hid ho'
  clear ho' hg'
  go_wp2
  go_ret
  exact ⟨_, rfl, HO.out, hx'⟩
set_option maxRecDepth 100000 in
set_option maxHeartbeats 2000000 in
theorem thread_c (a : Option Addr) (n cap : Nat) (L : List Int) (w : World) (hl : FlatAt w a n L) (hcv : cvB n L = true) :
    Calls Tryd.prog 32 #[.slice a n cap] w (RetF 61 w n (thrTo n L n)) := by
  obtain ⟨hn1, hn40, -, hall⟩ := cvB_bounds hcv
  obtain ⟨b, off, rfl, hb, hc⟩ := hl.cells (by omega)
  have HL := Lib.hid hl
  have HV := Lib.hid hall
  have HLn := Lib.hid hl.len
  have HC := Lib.hid hc
  clear hl hall hcv hc
  go_enter Tryd.func32, Tryd.ntmps32
  go_wp2_with fail
  refine (cloneIns_c _ n cap L _ HL.out (by omega) (by omega)).mono ?_
  rintro e w1 ⟨v1, rfl, o1, hx1⟩
  obtain ⟨g, c1, rfl, hBg, hg1, -, -⟩ := o1.row (by omega)
  rw [← thrTo_zero n L HLn.out] at o1
  have HO := Lib.hid o1
  have HX := Lib.hid hx1
  clear o1 hx1
  go_wp2
  go_loopw [12] (fun i wr => Hid (∃ k : Nat, k ≤ n ∧ i = .int .i64 k ∧ OwnF wr w.heap.size 61 (.slice (some ⟨g, 0, none⟩) n c1) n (thrTo n L k) ∧ Ext w wr)) (fun i _ => n - (intOf i).toNat)
  case atStart => exact Lib.hid ⟨0, Nat.zero_le _, rfl, HO.out, HX.out⟩
  case round =>
    obtain ⟨k, hk, rfl, ho, hx⟩ := hrel.out
    clear hrel HO HX hg1
    by_cases hlt : k < n
    · obtain ⟨c0, c1', c2⟩ := HC.out k hlt
      have hbb : b < wr.heap.size := Nat.lt_of_lt_of_le hb hx.size
      replace c0 := hx.cell' c0 hb
      replace c1' := hx.cell' c1' hb
      replace c2 := hx.cell' c2 hb
      have HO := Lib.hid ho
      have HX := Lib.hid hx
      have zx := hx.size
      obtain ⟨g', cg', hv, -, hgs, hcell, hfz⟩ := ho.row (by omega)
      obtain ⟨rfl, -⟩ : g = g' ∧ c1 = cg' := by simpa using hv
      have d2 := hcell (k * 3 + 2) (by omega)
      have f2 := hfz (k * 3 + 2)
      have hins := insB_goes (HV.out k hlt)
      have hts : Hid (¬ (kd L k = 1 ∨ kd L k = 2) → thr n L k = tg L k) := thr_same n L k
      have hth : Hid (kd L k = 1 ∨ kd L k = 2 → 0 ≤ hopI L (n + 1) (tg L k).toNat → thr n L k = hopI L (n + 1) (tg L k).toNat) := thr_some
      have htn : Hid (kd L k = 1 ∨ kd L k = 2 → hopI L (n + 1) (tg L k).toNat < 0 → thr n L k = tg L k) := thr_none
      unfold kd tg at hins hth htn hts
      clear hv hcell hfz ho hx
      generalize hKe : nth L (k * 3) = K at *
      generalize nth L (k * 3 + 1) = A at *
      generalize hTe : nth L (k * 3 + 2) = T at *
      have HTe := Lib.hid hTe
      clear hKe hTe
      by_cases hK : K = 1 ∨ K = 2
      · obtain ⟨hT0, hTn⟩ := hins hK
        obtain ⟨P, rfl⟩ := Int.eq_ofNat_of_zero_le hT0
        rw [Int.toNat_natCast] at hth htn
        have hPn : P < n := by omega
        have hth' : Hid (0 ≤ hopI L (n + 1) P → thr n L k = hopI L (n + 1) P) := fun h => hth.out hK h
        have htn' : Hid (hopI L (n + 1) P < 0 → thr n L k = (P : Int)) := fun h => htn.out hK h
        clear hth htn hts hins hT0 hTn
        have hKb : Hid (K = 1 ∨ K = 2) := hK
        have k1 : ((K != 1) && (K != 2)) = false := by rcases hK with rfl | rfl <;> rfl
        have hstart : ∀ (wq : World), True := fun _ => trivial
        rcases hK with rfl | rfl
        all_goals
          go_wp2
          go_loop [6, 7] (fun t i => Hid (∃ m : Nat, m ≤ n + 1 ∧ i = .int .i64 m ∧ t = .int .i64 (pos L P m) ∧ ∀ j, j < m → kd L (pos L P j) = 2)) (fun _ i => n + 2 - (intOf i).toNat)
          case atStart => exact Lib.hid ⟨0, by omega, rfl, rfl, fun j hj => absurd hj (Nat.not_lt_zero _)⟩
          case round =>
            obtain ⟨m, hm, rfl, rfl, hj⟩ := hrel.out
            clear hrel
            have HJ := Lib.hid hj
            have hpl := pos_lt HV.out hPn m hj
            obtain ⟨e0, -, e2⟩ := HC.out _ hpl
            replace e0 := HX.out.cell' e0 hb
            replace e2 := HX.out.cell' e2 hb
            clear hj
            have hnext : Hid (pos L P (m + 1) = (nth L (pos L P m * 3 + 2)).toNat) := rfl
            have hstep : Hid (nth L (pos L P m * 3) = 2 → ∀ j, j < m + 1 → kd L (pos L P j) = 2) := fun h => upto_succ HJ.out h
            have hfinA : Hid (nth L (pos L P m * 3) ≠ 2 → m < n + 1 → thr n L k = ((pos L P m : Nat) : Int)) := fun h h2 => by
              have h3 := hopI_some HJ.out h h2
              have h4 := hth'.out (by rw [h3]; omega)
              rw [h4, h3]
            have hnoA : Hid (m = n + 1 → nth L (pos L P m * 3) = 2) := fun h => by
              subst h
              exact jumps_on (fun j hj => pos_lt HV.out hPn j (fun i hi => HJ.out i (by omega))) (fun j hj => HJ.out j (by omega))
            have hfinB : Hid (m = n + 1 → thr n L k = (P : Int)) := fun h => by
              subst h
              have h3 := hopI_none HJ.out
              exact htn'.out (by rw [h3]; omega)
            have hgo : Hid (nth L (pos L P m * 3) = 2 → 0 ≤ nth L (pos L P m * 3 + 2)) := fun h => (insB_goes (HV.out _ hpl) (.inr h)).1
            generalize pos L P m = X at *
            generalize nth L (X * 3) = KX at *
            generalize nth L (X * 3 + 2) = TX at *
            by_cases hk2 : KX = 2
            · subst hk2
              by_cases hmn : m = n + 1
              · have ht := hfinB.out hmn
                have hset := Lib.hid (HO.out.set (k * 3 + 2) ((P : Int))).1
                have hfin : Hid ((thrTo n L k).set (k * 3 + 2) ((P : Int)) = thrTo n L (k + 1)) := by unfold Hid; rw [← thrTo_set n L k hlt, ht]
                subst hmn
                go_wp2
                go_roundw
                case rel => exact Lib.hid ⟨k + 1, by omega, by go_num, by rw [← hfin.out]; exact OwnF.ext hset.out (by (repeat (first | exact Ext.refl _ | assumption | refine Ext.alloc ?_ _ | refine Ext.drewN ?_ _ | refine Ext.drew ?_))), by first | exact (HX.out.trans (by (repeat (first | exact Ext.refl _ | assumption | refine Ext.alloc ?_ _ | refine Ext.drewN ?_ _ | refine Ext.drew ?_)))).setCell hBg _ | exact (HX.out.setCell hBg _).trans (by (repeat (first | exact Ext.refl _ | assumption | refine Ext.alloc ?_ _ | refine Ext.drewN ?_ _ | refine Ext.drew ?_)))⟩
                case measure => simp [intOf]; omega
              · have h0 := hgo.out rfl
                go_wp2
                go_round
                case rel => exact Lib.hid ⟨m + 1, by omega, by go_num, by rw [hnext.out, Int.toNat_of_nonneg h0], hstep.out rfl⟩
                case measure => simp [intOf]; omega
            · have hmn : m < n + 1 := by
                rcases Nat.lt_or_ge m (n + 1) with h | h
                · exact h
                · exact absurd (hnoA.out (by omega)) hk2
              have ht := hfinA.out hk2 hmn
              have e2' : (KX == 2) = false := by simp [hk2]
              have hset := Lib.hid (HO.out.set (k * 3 + 2) (((X : Nat) : Int))).1
              have hfin : Hid ((thrTo n L k).set (k * 3 + 2) (((X : Nat) : Int)) = thrTo n L (k + 1)) := by unfold Hid; rw [← thrTo_set n L k hlt, ht]
              go_wp2
              go_roundw
              case rel => exact Lib.hid ⟨k + 1, by omega, by go_num, by rw [← hfin.out]; exact OwnF.ext hset.out (by (repeat (first | exact Ext.refl _ | assumption | refine Ext.alloc ?_ _ | refine Ext.drewN ?_ _ | refine Ext.drew ?_))), by first | exact (HX.out.trans (by (repeat (first | exact Ext.refl _ | assumption | refine Ext.alloc ?_ _ | refine Ext.drewN ?_ _ | refine Ext.drew ?_)))).setCell hBg _ | exact (HX.out.setCell hBg _).trans (by (repeat (first | exact Ext.refl _ | assumption | refine Ext.alloc ?_ _ | refine Ext.drewN ?_ _ | refine Ext.drew ?_)))⟩
              case measure => simp [intOf]; omega
      · have ht := hts.out hK
        have e1 : (K != 1) = true := by simp; omega
        have e2 : (K != 2) = true := by simp; omega
        have hsk := Lib.hid (thrTo_skip n L k hlt (by unfold tg; rw [HTe.out]; exact ht))
        clear hth htn hts hins hK
        go_wp2
        go_roundw
        case rel => exact Lib.hid ⟨k + 1, by omega, by go_num, by rw [← hsk.out]; exact HO.out.ext (by (repeat (first | exact Ext.refl _ | assumption | refine Ext.alloc ?_ _ | refine Ext.drewN ?_ _ | refine Ext.drew ?_))), HX.out.trans (by (repeat (first | exact Ext.refl _ | assumption | refine Ext.alloc ?_ _ | refine Ext.drewN ?_ _ | refine Ext.drew ?_)))⟩
        case measure => simp [intOf]; omega
    · obtain rfl : k = n := by omega
      go_wp2
      go_ret
      exact ⟨_, rfl, ho, hx⟩
theorem iCodeThread_c (a : Option Addr) (n cap : Nat) (L : List Int) (w : World) (hl : FlatAt w a n L) (hlen : n ≤ 4194304) :
    Calls Tryd.prog 13 #[.slice a n cap] w (RetF 61 w (cvN n L) (thF n L)) := by
  have HL := Lib.hid hl
  clear hl
  cases hcv : cvB n L
  · have hN := Lib.hid (cvN_false hcv)
    have hT : Hid (thF n L = []) := by unfold Hid thF; rw [hcv]; rfl
    go_enter Tryd.func13, Tryd.ntmps13
    go_wp2_with fail
    refine (iCodeValid_c a n cap L _ (HL.out.ext (by (repeat (first | exact Ext.refl _ | assumption | refine Ext.alloc ?_ _ | refine Ext.drewN ?_ _ | refine Ext.drew ?_)))) hlen).mono ?_
    rw [hcv]
    rintro e w1 ⟨rfl, y⟩
    go_wp2
    go_ret
    exact ⟨_, rfl, by rw [hN.out, hT.out]; exact OwnF.nil _ _ _, Ext.trans (by (repeat (first | exact Ext.refl _ | assumption | refine Ext.alloc ?_ _ | refine Ext.drewN ?_ _ | refine Ext.drew ?_))) y⟩
  · have hN := Lib.hid (cvN_true hcv)
    have hT : Hid (thF n L = thrTo n L n) := by unfold Hid thF; rw [hcv]; rfl
    have HCV := Lib.hid hcv
    go_enter Tryd.func13, Tryd.ntmps13
    go_wp2_with fail
    refine (iCodeValid_c a n cap L _ (HL.out.ext (by (repeat (first | exact Ext.refl _ | assumption | refine Ext.alloc ?_ _ | refine Ext.drewN ?_ _ | refine Ext.drew ?_)))) hlen).mono ?_
    rw [hcv]
    rintro e w1 ⟨rfl, y⟩
    have hx1 := Ext.trans (show Ext w _ by (repeat (first | exact Ext.refl _ | assumption | refine Ext.alloc ?_ _ | refine Ext.drewN ?_ _ | refine Ext.drew ?_))) y
    clear y hcv
    go_wp2_with fail
    refine (thread_c a n cap L _ (HL.out.ext (hx1.trans (by (repeat (first | exact Ext.refl _ | assumption | refine Ext.alloc ?_ _ | refine Ext.drewN ?_ _ | refine Ext.drew ?_))))) HCV.out).mono ?_
    rintro e w2 ⟨v, rfl, o, y⟩
    have hx2 := hx1.trans (Ext.trans (show Ext w1 _ by (repeat (first | exact Ext.refl _ | assumption | refine Ext.alloc ?_ _ | refine Ext.drewN ?_ _ | refine Ext.drew ?_))) y)
    have hz := hx1.size
    obtain ⟨av, cv, rfl, -⟩ := o.shape
    have HO := Lib.hid o
    clear o y
    go_wp2
    go_ret
    exact ⟨_, rfl, by rw [hN.out, hT.out]; exact HO.out.mono (by first | exact hz | (simp; omega)), hx2⟩
end Go.Proofs.YtlaamecfknkmlaaDoor
