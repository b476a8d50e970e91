/- Contracts: what is reached. -/
import Derived.Test.YtnhdachenckceaaCd
import Derived.Deep.DeepCutAuto
namespace Go.Proofs.Ytnhdachenckceaa
set_option linter.unusedVariables false
open Go.RowKit Go.Kt

set_option maxRecDepth 100000 in
set_option maxHeartbeats 2000000 in
theorem sCodeReached_c (a : Option Addr) (n cap : Nat) (L : List Int) (w : World) (hl : FlatAt w a n L) (hlen : n ≤ 4194304) :
    Calls Try.prog 30 #[.slice a n cap] w (RetB 4 w (rcF n L)) := by
  have HL := Lib.hid hl
  clear hl
  cases hcv : cvB n L
  · have hT : Hid (rcF n L = []) := by unfold Hid rcF; rw [hcv]; rfl
    go_enter Try.func30, Try.ntmps30
    go_wp2_with fail
    refine (sCodeValid_c a n cap L _ (HL.out.ext (by (repeat (first | exact Ext.refl _ | assumption | refine Ext.alloc ?_ _ | refine Ext.drewN ?_ _ | refine Ext.drew ?_)))) hlen).mono ?_
    rw [hcv]
    rintro e w1 ⟨rfl, y⟩
    have hx1 := Ext.trans (show Ext w _ by (repeat (first | exact Ext.refl _ | assumption | refine Ext.alloc ?_ _ | refine Ext.drewN ?_ _ | refine Ext.drew ?_))) y
    have hz := hx1.size
    clear y
    go_wp2
    go_ret
    exact ⟨_, rfl, by rw [hT.out]; exact OwnB.mono (OwnB.empty _ _) hz, hx1.trans (by (repeat (first | exact Ext.refl _ | assumption | refine Ext.alloc ?_ _ | refine Ext.drewN ?_ _ | refine Ext.drew ?_)))⟩
  · have hT : Hid (rcF n L = reachL n L) := by unfold Hid rcF; rw [hcv]; rfl
    have HCV := Lib.hid hcv
    obtain ⟨hn1, hn40, -, hall⟩ := cvB_bounds hcv
    have HV := Lib.hid hall
    go_enter Try.func30, Try.ntmps30
    go_wp2_with fail
    refine (sCodeValid_c a n cap L _ (HL.out.ext (by (repeat (first | exact Ext.refl _ | assumption | refine Ext.alloc ?_ _ | refine Ext.drewN ?_ _ | refine Ext.drew ?_)))) hlen).mono ?_
    rw [hcv]
    rintro e w1 ⟨rfl, y⟩
    have hx1 := Ext.trans (show Ext w _ by (repeat (first | exact Ext.refl _ | assumption | refine Ext.alloc ?_ _ | refine Ext.drewN ?_ _ | refine Ext.drew ?_))) y
    have hz := hx1.size
    have HL1 := HL.out.ext hx1
    obtain ⟨b, off, rfl, hb, hc⟩ := HL1.cells (by omega)
    have HC := Lib.hid hc
    clear y hcv hall hc HL1
    go_wp2_with (at_make; refine want_make_bool _ (by rfl) _ _ _ rfl w1.heap.size 4 Try.underlying39 infoBool _ _ n rfl rfl (by omega) (by simp) ?_)
    intro w2 ho hg
    have hxw2 := Ext.of_grown hg
    have hx2 := hx1.trans (Ext.of_grown hg)
    have hz2 := (Ext.of_grown hg).size
    obtain ⟨g, c2, hv, hB, hgs, hcell, hfz⟩ := ho.row (by simp; omega)
    obtain ⟨rfl, -⟩ : w1.heap.size = g ∧ n = c2 := by simpa using hv
    have d0 := hcell 0 (by simp; omega)
    have f0 := hfz 0
    have hset := (ho.set (by simp) 0 true).1
    have HC3 := HC
    have hbb : Hid (b < w2.heap.size) := Nat.lt_of_lt_of_le hb hz2
    have HC2 : Hid (∀ i, i < n → w2.cell? ⟨b, off + i * 3, none⟩ = some (.int .i64 (nth L (i * 3))) ∧ w2.cell? ⟨b, off + i * 3 + 1, none⟩ = some (.int .i64 (nth L (i * 3 + 1))) ∧ w2.cell? ⟨b, off + i * 3 + 2, none⟩ = some (.int .i64 (nth L (i * 3 + 2)))) := fun i hi => by
      obtain ⟨e0, e1, e2⟩ := HC.out i hi
      have ex := Ext.of_grown hg
      exact ⟨ex.cell' e0 hb, ex.cell' e1 hb, ex.cell' e2 hb⟩
    have hxs := Lib.hid (Ext.setCell hx2 (p := ⟨w1.heap.size, 0, none⟩) hz (.bool true))
    have HI : Hid (Inn n L ((List.replicate n false).set 0 true) ((List.replicate n false).set 0 true)) := by
      refine Inn.start (by simp) ?_ fun i hi ht => ?_
      · rw [nthB_set _ _ _ _ (by simp; omega), if_pos rfl]
      · rw [nthB_set _ _ _ _ (by simp; omega)] at ht
        split at ht
        · rename_i e; subst e; exact Reach.start
        · rw [nthB_replicate] at ht; cases ht
    have HCn : Hid (0 + 1 ≤ cnt ((List.replicate n false).set 0 true)) := by
      unfold Hid
      rw [cnt_set _ _ (by simp; omega) (nthB_replicate _ _)]; omega
    have HS := Lib.hid hset
    have hbne : ¬ b = w1.heap.size := by omega
    clear ho hg hcell hfz hset hv hx2
    go_wp2
    go_loopw [4] (fun i wr => Hid (∃ (m : Nat) (bs : List Bool), m ≤ n ∧ i = .int .i64 m ∧ OwnB wr w.heap.size 4 (.slice (some ⟨w1.heap.size, 0, none⟩) n n) bs ∧ Ext w wr ∧ Ext w1 wr ∧ Inn n L bs bs ∧ (Closed n L bs ∨ m + 1 ≤ cnt bs))) (fun i _ => n - (intOf i).toNat)
    case atStart =>
      refine Lib.hid ⟨0, _, Nat.zero_le _, rfl, HS.out.mono hz, hxs.out, ?_, HI.out, .inr HCn.out⟩
      exact Ext.setCell hxw2 (Nat.le_refl _) _
    case round =>
      obtain ⟨m, bs, hm, rfl, ho, hx, hxv, hinn, hcl⟩ := hrel.out
      clear hrel HS HI HCn hxs hxw2 HC d0 f0
      by_cases hlt : m < n
      · have HO0 := Lib.hid ho
        have HX0 := Lib.hid hx
        have HXV0 := Lib.hid hxv
        have HIN := Lib.hid hinn
        have HCL := Lib.hid hcl
        clear ho hx hxv hinn hcl
        have hmb : decide ((m : Int) < (n : Int)) = true := by simp; omega
        go_wp2
        go_loopw [5] (fun j wr => Hid (∃ (k : Nat) (bb : List Bool), k ≤ n ∧ j = .int .i64 k ∧ OwnB wr w.heap.size 4 (.slice (some ⟨w1.heap.size, 0, none⟩) n n) bb ∧ Ext w wr ∧ Ext w1 wr ∧ Inn n L bs bb ∧ (bb = bs → ∀ j, j < k → closedAt L bs j))) (fun j _ => n - (intOf j).toNat)
        case atStart => exact Lib.hid ⟨0, bs, Nat.zero_le _, rfl, HO0.out, HX0.out, HXV0.out, HIN.out, fun _ j hj => absurd hj (Nat.not_lt_zero _)⟩
        case round =>
          clear HO0 HX0 HXV0
          obtain ⟨k, bb, hk, rfl, ho, hx, hxv, hinn, hcl⟩ := hrel.out
          clear hrel
          by_cases hkn : k < n
          · have hln := hinn.len
            obtain ⟨g', c', hv, -, hgs, hcell, hfz⟩ := ho.row (by omega)
            obtain ⟨rfl, -, rfl⟩ : w1.heap.size = g' ∧ n = bb.length ∧ n = c' := by simpa using hv
            have hbw : b < w1.heap.size := hb
            have ex2 : ∀ (o : Nat) (u : Value), w1.cell? ⟨b, o, none⟩ = some u → wr.cell? ⟨b, o, none⟩ = some u := fun o u h => hxv.cell' h hbw
            obtain ⟨e0, e1, e2⟩ := HC3.out k hkn
            replace e0 := ex2 _ _ e0
            replace e1 := ex2 _ _ e1
            replace e2 := ex2 _ _ e2
            have hbr : b < wr.heap.size := Nat.lt_of_lt_of_le hbw hxv.size
            have dk := hcell k (by omega)
            have hstep := Lib.hid (hinn.step HCV.out hkn hcl)
            have hkd := insB_kind (HV.out k hkn)
            have hgo := insB_goes (HV.out k hkn)
            have HO := Lib.hid ho
            have HX := Lib.hid hx
            have HXV := Lib.hid hxv
            have hnx : kd L k < 2 → k + 1 < n := fun h => next_lt HCV.out hkn h
            have hcellH := Lib.hid hcell
            have hfzH := Lib.hid hfz
            clear hv hcell hfz ho hx hxv hinn hcl ex2
            cases hbk : nthB bb k
            · rw [hbk] at dk
              have hst : stepB L bb k = bb := stepB_off hbk
              rw [hst] at hstep
              have hown := HO
              have hxs := HX
              have hxv := HXV
              clear hst hln
              go_wp2
              go_roundw
              case rel => refine Lib.hid ⟨k + 1, _, by omega, by go_num, (by first | exact hown.out | exact hown.out.ext (by (repeat (first | exact Ext.refl _ | assumption | refine Ext.alloc ?_ _ | refine Ext.drewN ?_ _ | refine Ext.drew ?_)))), (by first | exact hxs.out | exact hxs.out.trans (by (repeat (first | exact Ext.refl _ | assumption | refine Ext.alloc ?_ _ | refine Ext.drewN ?_ _ | refine Ext.drew ?_)))), (by first | exact hxv.out | exact hxv.out.trans (by (repeat (first | exact Ext.refl _ | assumption | refine Ext.alloc ?_ _ | refine Ext.drewN ?_ _ | refine Ext.drew ?_)))), hstep.out.1, hstep.out.2⟩
              case measure => simp [intOf]; omega
            · rw [hbk] at dk
              rcases (show kd L k = 0 ∨ kd L k = 1 ∨ kd L k = 2 ∨ kd L k = 3 by omega) with hK | hK | hK | hK
              · have hlt1 := hnx (by omega)
                have d1 := hcellH.out (k + 1) (by omega)
                have f1 := hfzH.out (k + 1)
                have hst0 := stepB_0 hbk hK
                unfold kd at hK
                rw [hK] at e0
                have hst : stepB L bb k = bb.set (k + 1) true := hst0
                rw [hst] at hstep
                have hown := Lib.hid (HO.out.set hln.symm (k + 1) true).1
                have hxs := Lib.hid (HX.out.setCell (p := ⟨w1.heap.size, k + 1, none⟩) hz (.bool true))
                have hxv := Lib.hid (HXV.out.setCell (p := ⟨w1.heap.size, k + 1, none⟩) (Nat.le_refl _) (.bool true))
                clear hst hln
                go_wp2
                go_roundw
                case rel => refine Lib.hid ⟨k + 1, _, by omega, by go_num, (by first | exact hown.out | exact hown.out.ext (by (repeat (first | exact Ext.refl _ | assumption | refine Ext.alloc ?_ _ | refine Ext.drewN ?_ _ | refine Ext.drew ?_)))), (by first | exact hxs.out | exact hxs.out.trans (by (repeat (first | exact Ext.refl _ | assumption | refine Ext.alloc ?_ _ | refine Ext.drewN ?_ _ | refine Ext.drew ?_)))), (by first | exact hxv.out | exact hxv.out.trans (by (repeat (first | exact Ext.refl _ | assumption | refine Ext.alloc ?_ _ | refine Ext.drewN ?_ _ | refine Ext.drew ?_)))), hstep.out.1, hstep.out.2⟩
                case measure => simp [intOf]; omega
              · have hlt1 := hnx (by omega)
                obtain ⟨hT0, hTn⟩ := hgo (.inl hK)
                have d1 := hcellH.out (k + 1) (by omega)
                have f1 := hfzH.out (k + 1)
                have hst0 := stepB_1 (by omega) hbk hK
                obtain ⟨P, hP⟩ := Int.eq_ofNat_of_zero_le hT0
                rw [hP, Int.toNat_natCast] at hst0
                have d2 := hcellH.out P (by omega)
                have f2 := hfzH.out P
                have hPn : P < n := by omega
                unfold kd at hK
                unfold tg at hP
                rw [hK] at e0
                rw [hP] at e2
                clear hT0 hTn hgo hnx hkd hP hK
                by_cases hPk : P = k + 1
                · subst hPk
                  have hst : stepB L bb k = (bb.set (k + 1) true).set (k + 1) true := hst0
                  rw [hst] at hstep
                  have hown := Lib.hid ((HO.out.set hln.symm (k + 1) true).1.set (by rw [List.length_set]; exact hln.symm) ((k + 1)) true).1
                  have hxs := Lib.hid ((HX.out.setCell (p := ⟨w1.heap.size, k + 1, none⟩) hz (.bool true)).setCell (p := ⟨w1.heap.size, (k + 1), none⟩) hz (.bool true))
                  have hxv := Lib.hid ((HXV.out.setCell (p := ⟨w1.heap.size, k + 1, none⟩) (Nat.le_refl _) (.bool true)).setCell (p := ⟨w1.heap.size, (k + 1), none⟩) (Nat.le_refl _) (.bool true))
                  clear hst hln
                  go_wp2
                  go_roundw
                  case rel => refine Lib.hid ⟨k + 1, _, by omega, by go_num, (by first | exact hown.out | exact hown.out.ext (by (repeat (first | exact Ext.refl _ | assumption | refine Ext.alloc ?_ _ | refine Ext.drewN ?_ _ | refine Ext.drew ?_)))), (by first | exact hxs.out | exact hxs.out.trans (by (repeat (first | exact Ext.refl _ | assumption | refine Ext.alloc ?_ _ | refine Ext.drewN ?_ _ | refine Ext.drew ?_)))), (by first | exact hxv.out | exact hxv.out.trans (by (repeat (first | exact Ext.refl _ | assumption | refine Ext.alloc ?_ _ | refine Ext.drewN ?_ _ | refine Ext.drew ?_)))), hstep.out.1, hstep.out.2⟩
                  case measure => simp [intOf]; omega
                · have hPk' : ¬ k + 1 = P := fun h => hPk h.symm
                  have hst : stepB L bb k = (bb.set (k + 1) true).set P true := hst0
                  rw [hst] at hstep
                  have hown := Lib.hid ((HO.out.set hln.symm (k + 1) true).1.set (by rw [List.length_set]; exact hln.symm) (P) true).1
                  have hxs := Lib.hid ((HX.out.setCell (p := ⟨w1.heap.size, k + 1, none⟩) hz (.bool true)).setCell (p := ⟨w1.heap.size, P, none⟩) hz (.bool true))
                  have hxv := Lib.hid ((HXV.out.setCell (p := ⟨w1.heap.size, k + 1, none⟩) (Nat.le_refl _) (.bool true)).setCell (p := ⟨w1.heap.size, P, none⟩) (Nat.le_refl _) (.bool true))
                  clear hst hln
                  go_wp2
                  go_roundw
                  case rel => refine Lib.hid ⟨k + 1, _, by omega, by go_num, (by first | exact hown.out | exact hown.out.ext (by (repeat (first | exact Ext.refl _ | assumption | refine Ext.alloc ?_ _ | refine Ext.drewN ?_ _ | refine Ext.drew ?_)))), (by first | exact hxs.out | exact hxs.out.trans (by (repeat (first | exact Ext.refl _ | assumption | refine Ext.alloc ?_ _ | refine Ext.drewN ?_ _ | refine Ext.drew ?_)))), (by first | exact hxv.out | exact hxv.out.trans (by (repeat (first | exact Ext.refl _ | assumption | refine Ext.alloc ?_ _ | refine Ext.drewN ?_ _ | refine Ext.drew ?_)))), hstep.out.1, hstep.out.2⟩
                  case measure => simp [intOf]; omega
              · obtain ⟨hT0, hTn⟩ := hgo (.inr hK)
                have hst0 := stepB_2 hbk hK
                obtain ⟨P, hP⟩ := Int.eq_ofNat_of_zero_le hT0
                rw [hP, Int.toNat_natCast] at hst0
                have d2 := hcellH.out P (by omega)
                have f2 := hfzH.out P
                have hPn : P < n := by omega
                unfold kd at hK
                unfold tg at hP
                rw [hK] at e0
                rw [hP] at e2
                clear hT0 hTn hgo hnx hkd hP hK
                have hst : stepB L bb k = bb.set P true := hst0
                rw [hst] at hstep
                have hown := Lib.hid (HO.out.set hln.symm (P) true).1
                have hxs := Lib.hid (HX.out.setCell (p := ⟨w1.heap.size, P, none⟩) hz (.bool true))
                have hxv := Lib.hid (HXV.out.setCell (p := ⟨w1.heap.size, P, none⟩) (Nat.le_refl _) (.bool true))
                clear hst hln
                go_wp2
                go_roundw
                case rel => refine Lib.hid ⟨k + 1, _, by omega, by go_num, (by first | exact hown.out | exact hown.out.ext (by (repeat (first | exact Ext.refl _ | assumption | refine Ext.alloc ?_ _ | refine Ext.drewN ?_ _ | refine Ext.drew ?_)))), (by first | exact hxs.out | exact hxs.out.trans (by (repeat (first | exact Ext.refl _ | assumption | refine Ext.alloc ?_ _ | refine Ext.drewN ?_ _ | refine Ext.drew ?_)))), (by first | exact hxv.out | exact hxv.out.trans (by (repeat (first | exact Ext.refl _ | assumption | refine Ext.alloc ?_ _ | refine Ext.drewN ?_ _ | refine Ext.drew ?_)))), hstep.out.1, hstep.out.2⟩
                case measure => simp [intOf]; omega
              · have hst0 := stepB_3 (b := bb) hK
                unfold kd at hK
                rw [hK] at e0
                have hst : stepB L bb k = bb := hst0
                rw [hst] at hstep
                have hown := HO
                have hxs := HX
                have hxv := HXV
                clear hst hln
                go_wp2
                go_roundw
                case rel => refine Lib.hid ⟨k + 1, _, by omega, by go_num, (by first | exact hown.out | exact hown.out.ext (by (repeat (first | exact Ext.refl _ | assumption | refine Ext.alloc ?_ _ | refine Ext.drewN ?_ _ | refine Ext.drew ?_)))), (by first | exact hxs.out | exact hxs.out.trans (by (repeat (first | exact Ext.refl _ | assumption | refine Ext.alloc ?_ _ | refine Ext.drewN ?_ _ | refine Ext.drew ?_)))), (by first | exact hxv.out | exact hxv.out.trans (by (repeat (first | exact Ext.refl _ | assumption | refine Ext.alloc ?_ _ | refine Ext.drewN ?_ _ | refine Ext.drew ?_)))), hstep.out.1, hstep.out.2⟩
                case measure => simp [intOf]; omega
          · obtain rfl : k = n := by omega
            have hnew := Lib.hid (Inn.start hinn.len hinn.zero hinn.sound)
            have hrnd := Lib.hid (hinn.round hcl HCL.out)
            have HO := Lib.hid ho
            have HX := Lib.hid hx
            have HXV := Lib.hid hxv
            clear ho hx hxv hinn hcl
            go_wp2
            go_roundw
            case rel => exact Lib.hid ⟨m + 1, bb, by omega, by go_num, HO.out, HX.out, HXV.out, hnew.out, hrnd.out⟩
            case measure => simp [intOf]; omega
      · obtain rfl : m = n := by omega
        have hc : Closed m L bs := by
          rcases hcl with h | h
          · exact h
          · have h1 := cnt_le bs
            have h2 := hinn.len
            omega
        have hres := reach_is HCV.out hinn.len hinn.zero hinn.sound hc
        have HR : Hid (OwnB wr w.heap.size 4 (.slice (some ⟨w1.heap.size, 0, none⟩) m m) (rcF m L)) := by
          unfold Hid; rw [hT.out, ← hres]; exact ho
        clear ho hinn hcl hc hres
        go_wp2
        go_ret
        exact ⟨_, rfl, HR.out, hx⟩
set_option maxRecDepth 100000 in
set_option maxHeartbeats 2000000 in
theorem reachedIn_c (a : Option Addr) (n cap : Nat) (L : List Int) (w : World) (hl : FlatAt w a n L) (hcv : cvB n L = true) :
    Calls Try.prog 63 #[.slice a n cap] w (RetB 4 w (reachL n L)) := by
  obtain ⟨hn1, hn40, -, hall⟩ := cvB_bounds hcv
  obtain ⟨b, off, rfl, hb, hc⟩ := hl.cells (by omega)
  have HV := Lib.hid hall
  have HCV := Lib.hid hcv
  have HC := Lib.hid hc
  clear hl hall hcv hc
  go_enter Try.func63, Try.ntmps63
  go_wp2_with (at_make; refine want_make_bool _ (by rfl) _ _ _ rfl w.heap.size 4 Try.underlying39 infoBool _ _ n rfl rfl (by omega) (by simp) ?_)
  intro w2 ho hg
  have hx2 := Ext.of_grown hg
  have hz2 := hx2.size
  have hx0 := hx2
  have HO := Lib.hid ho
  have HX := Lib.hid hx2
  clear ho hg hx2
  go_wp2
  go_loopg [4] (3 * n + 1) (fun q v wr => Hid (∃ (bs : List Bool) (l : List Int), q = 3 * (n - cnt bs) + l.length ∧ OwnB wr w.heap.size 4 (.slice (some ⟨w.heap.size, 0, none⟩) n n) bs ∧ OwnI wr (w.heap.size + 1) 3 v l ∧ Ext w wr ∧ Dfs n L bs l))
  case atStart =>
    refine Lib.hid ⟨_, _, by rw [cnt_replicate]; rfl, HO.out.ext (by (repeat (first | exact Ext.refl _ | assumption | refine Ext.alloc ?_ _ | refine Ext.drewN ?_ _ | refine Ext.drew ?_))), ?_, HX.out.trans (by (repeat (first | exact Ext.refl _ | assumption | refine Ext.alloc ?_ _ | refine Ext.drewN ?_ _ | refine Ext.drew ?_))), Dfs.start L hn1⟩
    have hB : w.heap.size + 1 ≤ w2.heap.size := by
      have := (World.ownsRow.lt HO.out w.heap.size rfl).2
      omega
    exact World.ownsRow_lit w2 #[.int .i64 0] 1 hB (by unfold maxLen; omega) rfl
  case round =>
    obtain ⟨bs, l, rfl, ho, hi, hx, hd⟩ := hrel.out
    clear hrel HO HX hx0
    have hln := hd.len
    have hsz := hd.size
    rcases List.eq_nil_or_concat l with rfl | ⟨l', x, rfl⟩
    · have hdone := Lib.hid (hd.done HCV.out)
      obtain ⟨av, cv, rfl, -⟩ := hi.shape
      have HO := Lib.hid ho
      clear ho hi hd
      go_wp2
      go_ret
      exact ⟨_, rfl, by rw [← hdone.out]; exact HO.out, hx⟩
    · try simp only [List.concat_eq_append] at hi hd hsz
      obtain ⟨hx0, hxn, hxr⟩ := hd.items x (by simp)
      obtain ⟨p, rfl⟩ := Int.eq_ofNat_of_zero_le hx0
      have hp : p < n := by omega
      have hll : (l' ++ [(p : Int)]).length = l'.length + 1 := by simp
      obtain ⟨gt, ct, rfl, hBt, hst, hct, -⟩ := hi.row (by omega)
      have hcp := hct l'.length (by omega)
      have hnx : nth (l' ++ [(p : Int)]) l'.length = (p : Int) := by simp [nth, List.getD]
      rw [hnx] at hcp
      have hpop := hi.pop
      have hcap : l'.length + 1 ≤ ct := by
        rcases hi.2 with ⟨hv, _⟩ | ⟨g3, c3, cur, hv, _, _, h4, _⟩
        · simp at hv
        · have : gt = g3 ∧ ct = c3 := by simpa using hv
          omega
      obtain ⟨g', c', hv, -, hgs, hcell, hfz⟩ := ho.row (by omega)
      obtain ⟨rfl, -, rfl⟩ : w.heap.size = g' ∧ n = bs.length ∧ n = c' := by simpa using hv
      have dp := hcell p (by omega)
      have fp := hfz p
      obtain ⟨e0, e1, e2⟩ := HC.out p hp
      replace e0 := hx.cell' e0 hb
      replace e1 := hx.cell' e1 hb
      replace e2 := hx.cell' e2 hb
      have hbr : b < wr.heap.size := Nat.lt_of_lt_of_le hb hx.size
      have hl200 : l'.length + 1 ≤ 200 := by omega
      have HO := Lib.hid ho
      have HX := Lib.hid hx
      have HD := Lib.hid hd
      have HP := Lib.hid hpop
      have HLL := Lib.hid hll
      rw [hll]
      have hwl : IntKind.i64.wrap (((l'.length + 1 : Nat) : Int) - 1) = (l'.length : Int) := by rw [IntWalk.i64_in _ (by omega)]; omega
      clear hct hnx hi hv hcell hfz ho hx hd hpop hll hsz
      go_upto_region 6 with fail
      clear hcap
      cases hbp : nthB bs p
      · rw [hbp] at dp
        have hvis := Lib.hid (HD.out.visit HCV.out hbp)
        have hlnb : p < bs.length := by omega
        have hcs : Hid (cnt (bs.set p true) = cnt bs + 1 ∧ cnt (bs.set p true) ≤ n) := ⟨cnt_set bs p hlnb hbp, by have := cnt_le (bs.set p true); rw [List.length_set] at this; omega⟩
        have pob := Lib.hid ((HO.out.set hln.symm p true).1)
        have poi : Hid (OwnI (wr.setCell ⟨w.heap.size, p, none⟩ (.bool true)) (w.heap.size + 1) 3 (.slice (some ⟨gt, 0, none⟩) l'.length ct) l') := own_set_other HP.out ⟨w.heap.size, p, none⟩ _ (by simp [Value.ownBlock]; omega)
        have pxx := Lib.hid (HX.out.setCell (p := ⟨w.heap.size, p, none⟩) (Nat.le_refl _) (.bool true))
        have hkd := insB_kind (HV.out p hp)
        have hgo := insB_goes (HV.out p hp)
        have hmo : ∀ X, moreOf L p = X → moreOf L p = X := fun _ h => h
        have hmo0 : Hid (moreOf L p = (if kd L p = 0 ∨ kd L p = 1 then [((p + 1 : Nat) : Int)] else []) ++ (if kd L p = 1 ∨ kd L p = 2 then [tg L p] else [])) := rfl
        clear hmo
        unfold kd at hkd hgo hmo0
        unfold tg at hgo hmo0
        clear hln
        generalize nth L (p * 3) = K at *
        generalize nth L (p * 3 + 1) = A at *
        generalize nth L (p * 3 + 2) = T at *
        have hz0 : w.heap.size < wr.heap.size := hgs
        have hwp : IntKind.i64.wrap ((p : Int) + 1) = ((p + 1 : Nat) : Int) := by rw [IntWalk.i64_in _ (by omega)]; omega
        rcases (show K = 0 ∨ K = 1 ∨ K = 2 ∨ K = 3 by omega) with rfl | rfl | rfl | rfl
        · have hmo : moreOf L p = [(p : Int) + 1] := by have := hmo0.out; simpa using this
          go_wp2_with (at_builtin; refine want_append_int (by rfl) _ _ _ rfl (w.heap.size + 1) 3 Try.underlying22 infoInt _ (l') rfl ?hoa _ ((p + 1 : Nat) : Int) rfl ?hca ?hna ?hBa ?_)
          try (case hoa => first | exact poi.out | exact poi.out.ext (by (repeat (first | exact Ext.refl _ | assumption | refine Ext.alloc ?_ _ | refine Ext.drewN ?_ _ | refine Ext.drew ?_))))
          try (case hca => first | exact cell_new0 _ _ _ | simp [go_sem])
          try (case hna => first | omega | (simp; omega))
          try (case hBa => first | omega | (simp; omega))
          intro vA wA hoA hgA
          have hobA := Lib.hid (OwnB.kept (pob.out.ext (by (repeat (first | exact Ext.refl _ | assumption | refine Ext.alloc ?_ _ | refine Ext.drewN ?_ _ | refine Ext.drew ?_)))) hgA (.inr (by simp [Value.ownBlock]; omega)))
          have hxA := Lib.hid (OwnI.grown (w0 := w) (OwnI.mono (poi.out.ext (by (repeat (first | exact Ext.refl _ | assumption | refine Ext.alloc ?_ _ | refine Ext.drewN ?_ _ | refine Ext.drew ?_)))) (Nat.le_succ _)) (pxx.out.trans (by (repeat (first | exact Ext.refl _ | assumption | refine Ext.alloc ?_ _ | refine Ext.drewN ?_ _ | refine Ext.drew ?_)))) hgA)
          have hoiA := Lib.hid hoA
          have q0A : wA.cell? ⟨wr.heap.size, 0, none⟩ = some (.int .i64 0) := (World.cell?_of_block (a := ⟨wr.heap.size, 0, none⟩) (hgA.block wr.heap.size (by simp; try omega) (by simp [Value.ownBlock]; omega))).trans (by simp [go_sem])
          have q2A : wA.cell? ⟨wr.heap.size, 2, none⟩ = some (.int .i64 T) := (World.cell?_of_block (a := ⟨wr.heap.size, 2, none⟩) (hgA.block wr.heap.size (by simp; try omega) (by simp [Value.ownBlock]; omega))).trans (by simp [go_sem])
          clear hoA hgA
          go_wp2
          go_roundg (3 * (n - cnt (bs.set p true)) + (l' ++ [(p : Int) + 1]).length)
          case measure =>
            have h1 := HLL.out
            have h2 := hcs.out
            simp only [List.length_append, List.length_cons, List.length_nil, List.concat_eq_append] at h1 ⊢
            omega
          case rel => exact Lib.hid ⟨bs.set p true, l' ++ [(p : Int) + 1], rfl, (by first | exact hobA.out | exact hobA.out.ext (by (repeat (first | exact Ext.refl _ | assumption | refine Ext.alloc ?_ _ | refine Ext.drewN ?_ _ | refine Ext.drew ?_)))), (by first | exact hoiA.out | exact hoiA.out.ext (by (repeat (first | exact Ext.refl _ | assumption | refine Ext.alloc ?_ _ | refine Ext.drewN ?_ _ | refine Ext.drew ?_)))), (by first | exact hxA.out | exact hxA.out.trans (by (repeat (first | exact Ext.refl _ | assumption | refine Ext.alloc ?_ _ | refine Ext.drewN ?_ _ | refine Ext.drew ?_)))), by have := hvis.out; rw [hmo] at this; exact this⟩
        · have hmo : moreOf L p = [(p : Int) + 1, T] := by have := hmo0.out; simpa using this
          go_wp2_with (at_builtin; refine want_append_int (by rfl) _ _ _ rfl (w.heap.size + 1) 3 Try.underlying22 infoInt _ (l') rfl ?hob _ ((p + 1 : Nat) : Int) rfl ?hcb ?hnb ?hBb ?_)
          try (case hob => first | exact poi.out | exact poi.out.ext (by (repeat (first | exact Ext.refl _ | assumption | refine Ext.alloc ?_ _ | refine Ext.drewN ?_ _ | refine Ext.drew ?_))))
          try (case hcb => first | exact cell_new0 _ _ _ | simp [go_sem])
          try (case hnb => first | omega | (simp; omega))
          try (case hBb => first | omega | (simp; omega))
          intro vA wA hoA hgA
          have hobA := Lib.hid (OwnB.kept (pob.out.ext (by (repeat (first | exact Ext.refl _ | assumption | refine Ext.alloc ?_ _ | refine Ext.drewN ?_ _ | refine Ext.drew ?_)))) hgA (.inr (by simp [Value.ownBlock]; omega)))
          have hxA := Lib.hid (OwnI.grown (w0 := w) (OwnI.mono (poi.out.ext (by (repeat (first | exact Ext.refl _ | assumption | refine Ext.alloc ?_ _ | refine Ext.drewN ?_ _ | refine Ext.drew ?_)))) (Nat.le_succ _)) (pxx.out.trans (by (repeat (first | exact Ext.refl _ | assumption | refine Ext.alloc ?_ _ | refine Ext.drewN ?_ _ | refine Ext.drew ?_)))) hgA)
          have hoiA := Lib.hid hoA
          have q0A : wA.cell? ⟨wr.heap.size, 0, none⟩ = some (.int .i64 1) := (World.cell?_of_block (a := ⟨wr.heap.size, 0, none⟩) (hgA.block wr.heap.size (by simp; try omega) (by simp [Value.ownBlock]; omega))).trans (by simp [go_sem])
          have q2A : wA.cell? ⟨wr.heap.size, 2, none⟩ = some (.int .i64 T) := (World.cell?_of_block (a := ⟨wr.heap.size, 2, none⟩) (hgA.block wr.heap.size (by simp; try omega) (by simp [Value.ownBlock]; omega))).trans (by simp [go_sem])
          obtain ⟨avA, cvA, rfl, -⟩ := hoA.shape
          have hAl : ∀ y : Int, (l' ++ [y]).length = l'.length + 1 := fun y => by simp
          have Aoi0 := Lib.hid hoA
          rw [hAl] at hoA
          have hbA := World.ownsRow.lt hoA
          have hzA := hgA.size
          simp only [World.size_alloc, World.size_setCell] at hzA
          have Aob := hobA
          have Aoi := Lib.hid hoA
          have Axx := hxA
          clear hoA hgA hoiA hAl
          go_wp2_with (at_builtin; refine want_append_int (by rfl) _ _ _ rfl (w.heap.size + 1) 3 Try.underlying22 infoInt _ (l' ++ [(p : Int) + 1]) rfl ?hoc _ T rfl ?hcc ?hnc ?hBc ?_)
          try (case hoc => first | exact Aoi.out.ext (by (repeat (first | exact Ext.refl _ | assumption | refine Ext.alloc ?_ _ | refine Ext.drewN ?_ _ | refine Ext.drew ?_))) | exact Aoi0.out.ext (by (repeat (first | exact Ext.refl _ | assumption | refine Ext.alloc ?_ _ | refine Ext.drewN ?_ _ | refine Ext.drew ?_))))
          try (case hcc => first | exact cell_new0 _ _ _ | simp [go_sem])
          try (case hnc => first | omega | (simp; omega))
          try (case hBc => first | omega | (simp; omega))
          intro vB wB hoB hgB
          have hobB := Lib.hid (OwnB.kept (Aob.out.ext (by (repeat (first | exact Ext.refl _ | assumption | refine Ext.alloc ?_ _ | refine Ext.drewN ?_ _ | refine Ext.drew ?_)))) hgB (.inr (fun e => by have := (hbA w.heap.size e.symm).1; omega)))
          have hxB := Lib.hid (OwnI.grown (w0 := w) (OwnI.mono (Aoi.out.ext (by (repeat (first | exact Ext.refl _ | assumption | refine Ext.alloc ?_ _ | refine Ext.drewN ?_ _ | refine Ext.drew ?_)))) (Nat.le_succ _)) (Axx.out.trans (by (repeat (first | exact Ext.refl _ | assumption | refine Ext.alloc ?_ _ | refine Ext.drewN ?_ _ | refine Ext.drew ?_)))) hgB)
          have hoiB := Lib.hid hoB
          clear hoB hgB
          go_wp2
          go_roundg (3 * (n - cnt (bs.set p true)) + (l' ++ [(p : Int) + 1, T]).length)
          case measure =>
            have h1 := HLL.out
            have h2 := hcs.out
            simp only [List.length_append, List.length_cons, List.length_nil, List.concat_eq_append] at h1 ⊢
            omega
          case rel => exact Lib.hid ⟨bs.set p true, l' ++ [(p : Int) + 1, T], rfl, (by first | exact hobB.out | exact hobB.out.ext (by (repeat (first | exact Ext.refl _ | assumption | refine Ext.alloc ?_ _ | refine Ext.drewN ?_ _ | refine Ext.drew ?_)))), (by first | exact hoiB.out | exact hoiB.out.ext (by (repeat (first | exact Ext.refl _ | assumption | refine Ext.alloc ?_ _ | refine Ext.drewN ?_ _ | refine Ext.drew ?_)))), (by first | exact hxB.out | exact hxB.out.trans (by (repeat (first | exact Ext.refl _ | assumption | refine Ext.alloc ?_ _ | refine Ext.drewN ?_ _ | refine Ext.drew ?_)))), by have := hvis.out; rw [hmo] at this; exact this⟩
        · have hmo : moreOf L p = [T] := by have := hmo0.out; simpa using this
          go_wp2_with (at_builtin; refine want_append_int (by rfl) _ _ _ rfl (w.heap.size + 1) 3 Try.underlying22 infoInt _ (l') rfl ?hod _ T rfl ?hcd ?hnd ?hBd ?_)
          try (case hod => first | exact poi.out | exact poi.out.ext (by (repeat (first | exact Ext.refl _ | assumption | refine Ext.alloc ?_ _ | refine Ext.drewN ?_ _ | refine Ext.drew ?_))))
          try (case hcd => first | exact cell_new0 _ _ _ | simp [go_sem])
          try (case hnd => first | omega | (simp; omega))
          try (case hBd => first | omega | (simp; omega))
          intro vA wA hoA hgA
          have hobA := Lib.hid (OwnB.kept (pob.out.ext (by (repeat (first | exact Ext.refl _ | assumption | refine Ext.alloc ?_ _ | refine Ext.drewN ?_ _ | refine Ext.drew ?_)))) hgA (.inr (by simp [Value.ownBlock]; omega)))
          have hxA := Lib.hid (OwnI.grown (w0 := w) (OwnI.mono (poi.out.ext (by (repeat (first | exact Ext.refl _ | assumption | refine Ext.alloc ?_ _ | refine Ext.drewN ?_ _ | refine Ext.drew ?_)))) (Nat.le_succ _)) (pxx.out.trans (by (repeat (first | exact Ext.refl _ | assumption | refine Ext.alloc ?_ _ | refine Ext.drewN ?_ _ | refine Ext.drew ?_)))) hgA)
          have hoiA := Lib.hid hoA
          clear hoA hgA
          go_wp2
          go_roundg (3 * (n - cnt (bs.set p true)) + (l' ++ [T]).length)
          case measure =>
            have h1 := HLL.out
            have h2 := hcs.out
            simp only [List.length_append, List.length_cons, List.length_nil, List.concat_eq_append] at h1 ⊢
            omega
          case rel => exact Lib.hid ⟨bs.set p true, l' ++ [T], rfl, (by first | exact hobA.out | exact hobA.out.ext (by (repeat (first | exact Ext.refl _ | assumption | refine Ext.alloc ?_ _ | refine Ext.drewN ?_ _ | refine Ext.drew ?_)))), (by first | exact hoiA.out | exact hoiA.out.ext (by (repeat (first | exact Ext.refl _ | assumption | refine Ext.alloc ?_ _ | refine Ext.drewN ?_ _ | refine Ext.drew ?_)))), (by first | exact hxA.out | exact hxA.out.trans (by (repeat (first | exact Ext.refl _ | assumption | refine Ext.alloc ?_ _ | refine Ext.drewN ?_ _ | refine Ext.drew ?_)))), by have := hvis.out; rw [hmo] at this; exact this⟩
        · have hmo : moreOf L p = [] := by have := hmo0.out; simpa using this
          go_wp2
          go_roundg (3 * (n - cnt (bs.set p true)) + (l' ++ []).length)
          case measure =>
            have h1 := HLL.out
            have h2 := hcs.out
            simp only [List.length_append, List.length_cons, List.length_nil, List.concat_eq_append] at h1 ⊢
            omega
          case rel => exact Lib.hid ⟨bs.set p true, l' ++ [], rfl, (by first | exact pob.out | exact pob.out.ext (by (repeat (first | exact Ext.refl _ | assumption | refine Ext.alloc ?_ _ | refine Ext.drewN ?_ _ | refine Ext.drew ?_)))), (by rw [List.append_nil]; first | exact poi.out | exact poi.out.ext (by (repeat (first | exact Ext.refl _ | assumption | refine Ext.alloc ?_ _ | refine Ext.drewN ?_ _ | refine Ext.drew ?_)))), (by first | exact pxx.out | exact pxx.out.trans (by (repeat (first | exact Ext.refl _ | assumption | refine Ext.alloc ?_ _ | refine Ext.drewN ?_ _ | refine Ext.drew ?_)))), by have := hvis.out; rw [hmo] at this; exact this⟩
      · rw [hbp] at dp
        have hsk := Lib.hid (HD.out.skip hbp)
        go_wp2
        go_roundg (3 * (n - cnt bs) + l'.length)
        case measure =>
          have h1 := HLL.out
          simp only [List.length_append, List.length_cons, List.length_nil, List.concat_eq_append] at h1 ⊢
          omega
        case rel => exact Lib.hid ⟨bs, l', rfl, HO.out, HP.out, HX.out, hsk.out⟩
theorem iCodeReached_c (a : Option Addr) (n cap : Nat) (L : List Int) (w : World) (hl : FlatAt w a n L) (hlen : n ≤ 4194304) :
    Calls Try.prog 31 #[.slice a n cap] w (RetB 4 w (rcF n L)) := by
  have HL := Lib.hid hl
  clear hl
  cases hcv : cvB n L
  · have hT : Hid (rcF n L = []) := by unfold Hid rcF; rw [hcv]; rfl
    go_enter Try.func31, Try.ntmps31
    go_wp2_with fail
    refine (iCodeValid_c a n cap L _ (HL.out.ext (by (repeat (first | exact Ext.refl _ | assumption | refine Ext.alloc ?_ _ | refine Ext.drewN ?_ _ | refine Ext.drew ?_)))) hlen).mono ?_
    rw [hcv]
    rintro e w1 ⟨rfl, y⟩
    go_wp2
    go_ret
    exact ⟨_, rfl, by rw [hT.out]; exact OwnB.nil _ _ _, Ext.trans (by (repeat (first | exact Ext.refl _ | assumption | refine Ext.alloc ?_ _ | refine Ext.drewN ?_ _ | refine Ext.drew ?_))) y⟩
  · have hT : Hid (rcF n L = reachL n L) := by unfold Hid rcF; rw [hcv]; rfl
    have HCV := Lib.hid hcv
    go_enter Try.func31, Try.ntmps31
    go_wp2_with fail
    refine (iCodeValid_c a n cap L _ (HL.out.ext (by (repeat (first | exact Ext.refl _ | assumption | refine Ext.alloc ?_ _ | refine Ext.drewN ?_ _ | refine Ext.drew ?_)))) hlen).mono ?_
    rw [hcv]
    rintro e w1 ⟨rfl, y⟩
    have hx1 := Ext.trans (show Ext w _ by (repeat (first | exact Ext.refl _ | assumption | refine Ext.alloc ?_ _ | refine Ext.drewN ?_ _ | refine Ext.drew ?_))) y
    clear y hcv
    go_wp2_with fail
    refine (reachedIn_c a n cap L _ (HL.out.ext (hx1.trans (by (repeat (first | exact Ext.refl _ | assumption | refine Ext.alloc ?_ _ | refine Ext.drewN ?_ _ | refine Ext.drew ?_))))) HCV.out).mono ?_
    rintro e w2 ⟨v, rfl, o, y⟩
    have hx2 := hx1.trans (Ext.trans (show Ext w1 _ by (repeat (first | exact Ext.refl _ | assumption | refine Ext.alloc ?_ _ | refine Ext.drewN ?_ _ | refine Ext.drew ?_))) y)
    have hz := hx1.size
    obtain ⟨av, cv, rfl, -⟩ := o.shape
    have HO := Lib.hid o
    clear o y
    go_wp2
    go_ret
    exact ⟨_, rfl, by rw [hT.out]; exact HO.out.mono (by first | exact hz | (simp; omega)), hx2⟩
end Go.Proofs.Ytnhdachenckceaa
