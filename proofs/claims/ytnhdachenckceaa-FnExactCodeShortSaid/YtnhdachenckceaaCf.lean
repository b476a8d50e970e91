/- Contracts: codes made shorter. -/
import Derived.Test.YtnhdachenckceaaCc
import Derived.Test.YtnhdachenckceaaCe
import Derived.Test.YtnhdachenckceaaShort
namespace Go.Proofs.Ytnhdachenckceaa
set_option linter.unusedVariables false
open Go.RowKit Go.Kt

set_option maxRecDepth 100000 in
set_option maxHeartbeats 4000000 in
theorem sCodeShort_c (a : Option Addr) (n cap : Nat) (L : List Int) (w : World) (hl : FlatAt w a n L) (hlen : n ≤ 4194304) :
    Calls Try.prog 44 #[.slice a n cap] w (RetF 49 w (shN n L) (shF n L)) := by
  have HL := Lib.hid hl
  clear hl
  cases hcv : cvB n L
  · have hN : Hid (shN n L = 0) := by unfold Hid shN; rw [hcv]; rfl
    have hT : Hid (shF n L = []) := by unfold Hid shF; rw [hcv]; rfl
    go_enter Try.func44, Try.ntmps44
    go_wp2_with fail
    refine (sCodeValid_c a n cap L _ (HL.out.ext (by (repeat (first | exact Ext.refl _ | assumption | refine Ext.alloc ?_ _ | refine Ext.drewN ?_ _ | refine Ext.drew ?_)))) hlen).mono ?_
    rw [hcv]
    rintro e w1 ⟨rfl, y⟩
    have hx1 := Ext.trans (show Ext w _ by (repeat (first | exact Ext.refl _ | assumption | refine Ext.alloc ?_ _ | refine Ext.drewN ?_ _ | refine Ext.drew ?_))) y
    have hz := hx1.size
    clear y
    go_wp2
    go_ret
    exact ⟨_, rfl, by rw [hN.out, hT.out]; exact OwnF.mono (OwnF.empty _ _) hz, hx1.trans (by (repeat (first | exact Ext.refl _ | assumption | refine Ext.alloc ?_ _ | refine Ext.drewN ?_ _ | refine Ext.drew ?_)))⟩
  · have hN0 : shN n L = plc (reachL n (thrTo n L n)) n := by unfold shN; rw [hcv]; rfl
    have hT0 : shF n L = outTo (thrTo n L n) (reachL n (thrTo n L n)) n := by unfold shF; rw [hcv]; rfl
    have hrc : rcF n (thrTo n L n) = reachL n (thrTo n L n) := by unfold rcF; rw [thr_valid hcv]; rfl
    have htf : thF n L = thrTo n L n := by unfold thF; rw [hcv]; rfl
    have hcn := cvN_true hcv
    have hvm := thr_valid hcv
    obtain ⟨hn1, hn40, -, hall⟩ := cvB_bounds hvm
    have HVM := Lib.hid hall
    have HCV := Lib.hid hvm
    have hrbl := reachL_length n (thrTo n L n)
    have hml := thrTo_length n L n
    generalize thrTo n L n = M at *
    generalize reachL n M = rb at *
    have hN := Lib.hid hN0
    have hT := Lib.hid hT0
    have HRC := Lib.hid hrc
    have HTF := Lib.hid htf
    have HCN := Lib.hid hcn
    clear hN0 hT0 hrc htf hcn hvm hall
    have HRL := Lib.hid hrbl
    clear hrbl
    go_enter Try.func44, Try.ntmps44
    go_wp2_with fail
    refine (sCodeValid_c a n cap L _ (HL.out.ext (by (repeat (first | exact Ext.refl _ | assumption | refine Ext.alloc ?_ _ | refine Ext.drewN ?_ _ | refine Ext.drew ?_)))) hlen).mono ?_
    rw [hcv]
    rintro e w1 ⟨rfl, y⟩
    have hx1 := Ext.trans (show Ext w _ by (repeat (first | exact Ext.refl _ | assumption | refine Ext.alloc ?_ _ | refine Ext.drewN ?_ _ | refine Ext.drew ?_))) y
    clear y hcv
    go_wp2_with fail
    refine (sCodeThread_c a n cap L _ (HL.out.ext (hx1.trans (by (repeat (first | exact Ext.refl _ | assumption | refine Ext.alloc ?_ _ | refine Ext.drewN ?_ _ | refine Ext.drew ?_))))) hlen).mono ?_
    rw [HCN.out, HTF.out]
    rintro e w2 ⟨v2, rfl, o2, y⟩
    obtain ⟨a2, c2, rfl, i2⟩ := o2.shape
    have hx2 := hx1.trans (Ext.trans (show Ext w1 _ by (repeat (first | exact Ext.refl _ | assumption | refine Ext.alloc ?_ _ | refine Ext.drewN ?_ _ | refine Ext.drew ?_))) y)
    clear y o2 hx1
    go_wp2_with fail
    refine (sCodeReached_c a2 n c2 M _ (i2.ext (by (repeat (first | exact Ext.refl _ | assumption | refine Ext.alloc ?_ _ | refine Ext.drewN ?_ _ | refine Ext.drew ?_)))) hlen).mono ?_
    rw [HRC.out]
    rintro e w3 ⟨v3, rfl, o3, y⟩
    obtain ⟨a3, c3, rfl, i3⟩ := o3.shape
    have hx3 := hx2.trans (Ext.trans (show Ext w2 _ by (repeat (first | exact Ext.refl _ | assumption | refine Ext.alloc ?_ _ | refine Ext.drewN ?_ _ | refine Ext.drew ?_))) y)
    have HM3 := Lib.hid ((i2.ext (show Ext w2 _ by (repeat (first | exact Ext.refl _ | assumption | refine Ext.alloc ?_ _ | refine Ext.drewN ?_ _ | refine Ext.drew ?_)))).ext y)
    have HRB3 := Lib.hid i3
    rw [HRL.out]
    clear y o3 hx2 i2 i3
    go_wp2
    go_loopw [4, 5, 6] (fun pv nn i wr => Hid (∃ k : Nat, k ≤ n ∧ i = .int .i64 k ∧ nn = .int .i64 ((plc rb k : Nat) : Int) ∧ OwnI wr w3.heap.size 3 pv (plTo rb k) ∧ Ext w3 wr)) (fun _ _ i _ => n - (intOf i).toNat)
    case atStart => exact Lib.hid ⟨0, Nat.zero_le _, rfl, rfl, OwnI.empty _ _, by (repeat (first | exact Ext.refl _ | assumption | refine Ext.alloc ?_ _ | refine Ext.drewN ?_ _ | refine Ext.drew ?_))⟩
    case round =>
      obtain ⟨k, hk, rfl, rfl, ho, hxw⟩ := hrel.out
      clear hrel
      by_cases hlt : k < n
      · obtain ⟨gb, ob, q1, q2⟩ := HRB3.out.ext hxw
        rw [HRL.out] at q1 q2
        obtain ⟨rfl, hgb⟩ := q1 (by omega)
        have HQ2 := Lib.hid (q2 k hlt)
        have HO := Lib.hid ho
        have HXW := Lib.hid hxw
        have zx := hxw.size
        have hpk := plc_le rb k
        have hon : Hid (nthB rb k = true → plc rb (k + 1) = plc rb k + 1) := fun h => plc_on h
        have hoff : Hid (nthB rb k = false → plc rb (k + 1) = plc rb k) := fun h => plc_off h
        have hsuc := Lib.hid (plTo_succ rb k)
        clear q1 q2 ho hxw
        generalize hY : plc rb k = Y at *
        go_wp2_with (at_builtin; refine want_append_int (by rfl) _ _ _ rfl w3.heap.size 3 Try.underlying22 infoInt _ (plTo rb k) rfl ?hop _ ((Y : Nat) : Int) rfl ?hcp ?hnp ?hBp ?_)
        try (case hop => first | exact HO.out | exact HO.out.ext (by (repeat (first | exact Ext.refl _ | assumption | refine Ext.alloc ?_ _ | refine Ext.drewN ?_ _ | refine Ext.drew ?_))))
        try (case hcp => first | exact cell_new0 _ _ _ | simp [go_sem])
        try (case hnp => rw [plTo_length]; omega)
        try (case hBp => first | exact zx | (simp; omega))
        intro v' w' ho' hg'
        have hx' := Lib.hid (OwnI.grown (HO.out.ext (by (repeat (first | exact Ext.refl _ | assumption | refine Ext.alloc ?_ _ | refine Ext.drewN ?_ _ | refine Ext.drew ?_)))) (HXW.out.trans (by (repeat (first | exact Ext.refl _ | assumption | refine Ext.alloc ?_ _ | refine Ext.drewN ?_ _ | refine Ext.drew ?_)))) hg')
        rw [← hsuc.out] at ho'
        have HO' := Lib.hid ho'
        have cb := (World.cell?_of_block (a := ⟨gb, ob + k, none⟩) (Eq.refl (w'.heap[gb]?)))
        have cb2 : w'.cell? ⟨gb, ob + k, none⟩ = some (.bool (nthB rb k)) := by
          obtain ⟨gb', ob', q1', q2'⟩ := HRB3.out.ext hx'.out
          rw [HRL.out] at q1' q2'
          obtain ⟨e, -⟩ := q1' (by omega)
          obtain ⟨rfl, rfl⟩ : gb = gb' ∧ ob = ob' := by simpa using e
          exact q2' k hlt
        have zb : gb < w'.heap.size := lt_of_cell cb2
        clear ho' hg' cb
        cases hbk : nthB rb k
        · have e1 := Lib.hid (hoff.out hbk)
          rw [hbk] at cb2
          clear hon hoff
          go_wp2
          go_roundw
          case rel => exact Lib.hid ⟨k + 1, by omega, by go_num, by rw [e1.out], HO'.out, hx'.out⟩
          case measure => simp [intOf]; omega
        · have e1 := Lib.hid (hon.out hbk)
          rw [hbk] at cb2
          clear hon hoff
          go_wp2
          go_roundw
          case rel => exact Lib.hid ⟨k + 1, by omega, by go_num, by rw [e1.out]; go_num, HO'.out, hx'.out⟩
          case measure => simp [intOf]; omega
      · obtain rfl : n = k := by omega
        obtain ⟨ap, cpp, rfl, ip⟩ := ho.shape
        obtain ⟨wp, rfl⟩ : ∃ wp : World, wp = wr := ⟨_, rfl⟩
        have hxp := hx3.trans hxw
        have HM := Lib.hid (HM3.out.ext hxw)
        have HRB := Lib.hid (HRB3.out.ext hxw)
        have HPL := Lib.hid ip
        have hrbl := HRL.out
        rw [plTo_length]
        clear ho hxw ip HM3 HRB3
        go_wp2
        go_loopw [7, 8] (fun v i wr => Hid (∃ k : Nat, k ≤ n ∧ i = .int .i64 k ∧ OwnF wr wp.heap.size 49 v (plc rb k) (outTo M rb k) ∧ Ext wp wr)) (fun _ i _ => n - (intOf i).toNat)
        case atStart => exact Lib.hid ⟨0, Nat.zero_le _, rfl, OwnF.empty _ _, by (repeat (first | exact Ext.refl _ | assumption | refine Ext.alloc ?_ _ | refine Ext.drewN ?_ _ | refine Ext.drew ?_))⟩
        case round =>
          obtain ⟨k, hk, rfl, ho, hxw⟩ := hrel.out
          clear hrel
          by_cases hlt : k < n
          · obtain ⟨gb, ob, q1, q2⟩ := HRB.out.ext hxw
            rw [hrbl] at q1 q2
            obtain ⟨rfl, hgb⟩ := q1 (by omega)
            have cb := q2 k hlt
            obtain ⟨gm, om, rfl, hgm, qm⟩ := (HM.out.ext hxw).cells (by omega)
            obtain ⟨m0, m1, m2⟩ := qm k hlt
            obtain ⟨gp, op, p1, p2⟩ := HPL.out.ext hxw
            rw [plTo_length] at p1 p2
            obtain ⟨rfl, hgp⟩ := p1 (by omega)
            have HO := Lib.hid ho
            have HXW := Lib.hid hxw
            have HP2 := Lib.hid p2
            have zx := hxw.size
            have hins := insB_goes (HVM.out k hlt)
            have hon : Hid (nthB rb k = true → plc rb (k + 1) = plc rb k + 1 ∧ outTo M rb (k + 1) = outTo M rb k ++ [kd M k, ag M k, shT M rb k]) := fun h => ⟨plc_on h, outTo_on h⟩
            have hoff : Hid (nthB rb k = false → plc rb (k + 1) = plc rb k ∧ outTo M rb (k + 1) = outTo M rb k) := fun h => ⟨plc_off h, outTo_off h⟩
            have hsh : Hid (shT M rb k = if kd M k = 1 ∨ kd M k = 2 then ((plc rb (tg M k).toNat : Nat) : Int) else tg M k) := rfl
            unfold kd at hins hon hsh
            unfold ag at hon
            unfold tg at hins hsh
            have hpk := plc_le rb k
            clear q1 q2 qm p1 p2 ho hxw
            generalize nth M (k * 3) = K at *
            generalize nth M (k * 3 + 1) = A at *
            generalize nth M (k * 3 + 2) = T at *
            cases hbk : nthB rb k
            · obtain ⟨e1, e2⟩ := hoff.out hbk
              rw [hbk] at cb
              have HO' := HO
              rw [← e1, ← e2] at HO'
              clear e1 e2
              go_wp2
              go_roundw
              case rel => exact Lib.hid ⟨k + 1, by omega, by go_num, (by first | exact HO'.out | exact HO'.out.ext (by (repeat (first | exact Ext.refl _ | assumption | refine Ext.alloc ?_ _ | refine Ext.drewN ?_ _ | refine Ext.drew ?_)))), HXW.out.trans (by (repeat (first | exact Ext.refl _ | assumption | refine Ext.alloc ?_ _ | refine Ext.drewN ?_ _ | refine Ext.drew ?_)))⟩
              case measure => simp [intOf]; omega
            · obtain ⟨e1, e2⟩ := hon.out hbk
              rw [hbk] at cb
              by_cases hK : K = 1 ∨ K = 2
              · obtain ⟨hT0, hTn⟩ := hins hK
                obtain ⟨P, rfl⟩ := Int.eq_ofNat_of_zero_le hT0
                have hPn : P < n := by omega
                have cp := HP2.out P hPn
                rw [plTo_get rb n P hPn] at cp
                try rw [Nat.zero_add] at cp
                have hse : shT M rb k = ((plc rb P : Nat) : Int) := by rw [hsh.out, if_pos hK, Int.toNat_natCast]
                rw [hse] at e2
                have E1 := Lib.hid e1
                have E2 := Lib.hid e2
                clear hins hT0 hTn hsh hse hon hoff e1 e2
                generalize plc rb P = Y at *
                rcases hK with rfl | rfl
                · go_wp2_with (at_builtin; refine want_append_ins (by rfl) _ _ _ rfl wp.heap.size 49 Try.underlying29 infoIns _ (plc rb k) (outTo M rb k) rfl ?hosa _ 1 A ((Y : Nat) : Int) rfl ?casa ?cbsa ?ccsa (by omega) ?hBsa ?_)
                  try (case hosa => first | exact HO.out | exact HO.out.ext (by (repeat (first | exact Ext.refl _ | assumption | refine Ext.alloc ?_ _ | refine Ext.drewN ?_ _ | refine Ext.drew ?_))))
                  try (case casa => simp [go_sem])
                  try (case cbsa => simp [go_sem])
                  try (case ccsa => simp [go_sem])
                  try (case hBsa => first | exact zx | (simp; omega))
                  intro v' w' ho' hg'
                  have hx' := Lib.hid (OwnF.grown (HO.out.ext (by (repeat (first | exact Ext.refl _ | assumption | refine Ext.alloc ?_ _ | refine Ext.drewN ?_ _ | refine Ext.drew ?_)))) (HXW.out.trans (by (repeat (first | exact Ext.refl _ | assumption | refine Ext.alloc ?_ _ | refine Ext.drewN ?_ _ | refine Ext.drew ?_)))) hg')
                  rw [← E1.out, ← E2.out] at ho'
                  have HO' := Lib.hid ho'
                  clear ho' hg'
                  go_wp2
                  go_roundw
                  case rel => exact Lib.hid ⟨k + 1, by omega, by go_num, HO'.out, hx'.out⟩
                  case measure => simp [intOf]; omega
                · go_wp2_with (at_builtin; refine want_append_ins (by rfl) _ _ _ rfl wp.heap.size 49 Try.underlying29 infoIns _ (plc rb k) (outTo M rb k) rfl ?hosb _ 2 A ((Y : Nat) : Int) rfl ?casb ?cbsb ?ccsb (by omega) ?hBsb ?_)
                  try (case hosb => first | exact HO.out | exact HO.out.ext (by (repeat (first | exact Ext.refl _ | assumption | refine Ext.alloc ?_ _ | refine Ext.drewN ?_ _ | refine Ext.drew ?_))))
                  try (case casb => simp [go_sem])
                  try (case cbsb => simp [go_sem])
                  try (case ccsb => simp [go_sem])
                  try (case hBsb => first | exact zx | (simp; omega))
                  intro v' w' ho' hg'
                  have hx' := Lib.hid (OwnF.grown (HO.out.ext (by (repeat (first | exact Ext.refl _ | assumption | refine Ext.alloc ?_ _ | refine Ext.drewN ?_ _ | refine Ext.drew ?_)))) (HXW.out.trans (by (repeat (first | exact Ext.refl _ | assumption | refine Ext.alloc ?_ _ | refine Ext.drewN ?_ _ | refine Ext.drew ?_)))) hg')
                  rw [← E1.out, ← E2.out] at ho'
                  have HO' := Lib.hid ho'
                  clear ho' hg'
                  go_wp2
                  go_roundw
                  case rel => exact Lib.hid ⟨k + 1, by omega, by go_num, HO'.out, hx'.out⟩
                  case measure => simp [intOf]; omega
              · have hse : shT M rb k = T := by rw [hsh.out, if_neg hK]
                rw [hse] at e2
                have k1 : (K == 1) = false := by simp; omega
                have k2 : (K == 2) = false := by simp; omega
                have E1 := Lib.hid e1
                have E2 := Lib.hid e2
                clear hins hsh hse hK hon hoff e1 e2
                go_wp2_with (at_builtin; refine want_append_ins (by rfl) _ _ _ rfl wp.heap.size 49 Try.underlying29 infoIns _ (plc rb k) (outTo M rb k) rfl ?hosc _ K A T rfl ?casc ?cbsc ?ccsc (by omega) ?hBsc ?_)
                try (case hosc => first | exact HO.out | exact HO.out.ext (by (repeat (first | exact Ext.refl _ | assumption | refine Ext.alloc ?_ _ | refine Ext.drewN ?_ _ | refine Ext.drew ?_))))
                try (case casc => simp [go_sem])
                try (case cbsc => simp [go_sem])
                try (case ccsc => simp [go_sem])
                try (case hBsc => first | exact zx | (simp; omega))
                intro v' w' ho' hg'
                have hx' := Lib.hid (OwnF.grown (HO.out.ext (by (repeat (first | exact Ext.refl _ | assumption | refine Ext.alloc ?_ _ | refine Ext.drewN ?_ _ | refine Ext.drew ?_)))) (HXW.out.trans (by (repeat (first | exact Ext.refl _ | assumption | refine Ext.alloc ?_ _ | refine Ext.drewN ?_ _ | refine Ext.drew ?_)))) hg')
                rw [← E1.out, ← E2.out] at ho'
                have HO' := Lib.hid ho'
                clear ho' hg'
                go_wp2
                go_roundw
                case rel => exact Lib.hid ⟨k + 1, by omega, by go_num, HO'.out, hx'.out⟩
                case measure => simp [intOf]; omega
          · obtain rfl : k = n := by omega
            have HO := Lib.hid ho
            have HXW := Lib.hid hxw
            clear ho hxw
            go_wp2
            go_ret
            exact ⟨_, rfl, by rw [hN.out, hT.out]; exact HO.out.mono hxp.size, hxp.trans HXW.out⟩
set_option maxRecDepth 100000 in
set_option maxHeartbeats 4000000 in
theorem iCodeShort_c (a : Option Addr) (n cap : Nat) (L : List Int) (w : World) (hl : FlatAt w a n L) (hlen : n ≤ 4194304) :
    Calls Try.prog 45 #[.slice a n cap] w (RetF 49 w (shN n L) (shF n L)) := by
  have HL := Lib.hid hl
  clear hl
  cases hcv : cvB n L
  · have hN : Hid (shN n L = 0) := by unfold Hid shN; rw [hcv]; rfl
    have hT : Hid (shF n L = []) := by unfold Hid shF; rw [hcv]; rfl
    go_enter Try.func45, Try.ntmps45
    go_wp2_with fail
    refine (iCodeValid_c a n cap L _ (HL.out.ext (by (repeat (first | exact Ext.refl _ | assumption | refine Ext.alloc ?_ _ | refine Ext.drewN ?_ _ | refine Ext.drew ?_)))) hlen).mono ?_
    rw [hcv]
    rintro e w1 ⟨rfl, y⟩
    go_wp2
    go_ret
    exact ⟨_, rfl, by rw [hN.out, hT.out]; exact OwnF.nil _ _ _, Ext.trans (by (repeat (first | exact Ext.refl _ | assumption | refine Ext.alloc ?_ _ | refine Ext.drewN ?_ _ | refine Ext.drew ?_))) y⟩
  · have hN0 : shN n L = plc (reachL n (thrTo n L n)) n := by unfold shN; rw [hcv]; rfl
    have hT0 : shF n L = outTo (thrTo n L n) (reachL n (thrTo n L n)) n := by unfold shF; rw [hcv]; rfl
    have hvm := thr_valid hcv
    obtain ⟨hn1, hn40, -, hall⟩ := cvB_bounds hvm
    have HVM := Lib.hid hall
    have HCV := Lib.hid hvm
    have HCL := Lib.hid hcv
    have hrbl := reachL_length n (thrTo n L n)
    have hthr := Lib.hid (fun (a1 : Option Addr) (c1 : Nat) (w0 : World) (h : FlatAt w0 a1 n L) => thread_c a1 n c1 L w0 h hcv)
    have hrea := Lib.hid (fun (a1 : Option Addr) (c1 : Nat) (w0 : World) (h : FlatAt w0 a1 n (thrTo n L n)) => reachedIn_c a1 n c1 (thrTo n L n) w0 h hvm)
    generalize thrTo n L n = M at *
    generalize reachL n M = rb at *
    have hN := Lib.hid hN0
    have hT := Lib.hid hT0
    clear hN0 hT0 hvm hall
    have HRL := Lib.hid hrbl
    clear hrbl
    go_enter Try.func45, Try.ntmps45
    go_wp2_with fail
    refine (iCodeValid_c a n cap L _ (HL.out.ext (by (repeat (first | exact Ext.refl _ | assumption | refine Ext.alloc ?_ _ | refine Ext.drewN ?_ _ | refine Ext.drew ?_)))) hlen).mono ?_
    rw [hcv]
    rintro e w1 ⟨rfl, y⟩
    have hx1 := Ext.trans (show Ext w _ by (repeat (first | exact Ext.refl _ | assumption | refine Ext.alloc ?_ _ | refine Ext.drewN ?_ _ | refine Ext.drew ?_))) y
    clear y hcv
    go_wp2_with fail
    refine (hthr.out a cap _ (HL.out.ext (hx1.trans (by (repeat (first | exact Ext.refl _ | assumption | refine Ext.alloc ?_ _ | refine Ext.drewN ?_ _ | refine Ext.drew ?_)))))).mono ?_
    rintro e w2 ⟨v2, rfl, o2, y⟩
    obtain ⟨a2, c2, rfl, i2⟩ := o2.shape
    have hx2 := hx1.trans (Ext.trans (show Ext w1 _ by (repeat (first | exact Ext.refl _ | assumption | refine Ext.alloc ?_ _ | refine Ext.drewN ?_ _ | refine Ext.drew ?_))) y)
    clear y o2 hx1
    go_wp2_with fail
    refine (hrea.out a2 c2 _ (i2.ext (by (repeat (first | exact Ext.refl _ | assumption | refine Ext.alloc ?_ _ | refine Ext.drewN ?_ _ | refine Ext.drew ?_))))).mono ?_
    rintro e w3 ⟨v3, rfl, o3, y⟩
    obtain ⟨a3, c3, rfl, i3⟩ := o3.shape
    have hx3 := hx2.trans (Ext.trans (show Ext w2 _ by (repeat (first | exact Ext.refl _ | assumption | refine Ext.alloc ?_ _ | refine Ext.drewN ?_ _ | refine Ext.drew ?_))) y)
    have HM3 := Lib.hid ((i2.ext (show Ext w2 _ by (repeat (first | exact Ext.refl _ | assumption | refine Ext.alloc ?_ _ | refine Ext.drewN ?_ _ | refine Ext.drew ?_)))).ext y)
    have HRB3 := Lib.hid i3
    rw [HRL.out]
    clear y o3 hx2 i2 i3
    go_wp2_with (at_make; refine want_make_int _ (by rfl) _ _ _ rfl w3.heap.size 3 Try.underlying22 infoInt _ _ n rfl rfl (by omega) (by simp) ?_)
    intro w4 ho4 hg4
    have hx4 := Ext.of_grown hg4
    have HO4 := Lib.hid ho4
    have HX4 := Lib.hid hx4
    have hpl0 := Lib.hid (plTo_length rb n)
    clear ho4 hg4 hx4
    go_wp2
    go_loopw [6, 24] (fun nn i wr => Hid (∃ k : Nat, k ≤ n ∧ i = .int .i64 k ∧ nn = .int .i64 ((plc rb k : Nat) : Int) ∧ OwnI wr w3.heap.size 3 (.slice (some ⟨w3.heap.size, 0, none⟩) n n) (fillTo (plTo rb n) k) ∧ Ext w3 wr)) (fun _ i _ => n - (intOf i).toNat)
    case atStart => exact Lib.hid ⟨0, Nat.zero_le _, rfl, rfl, by rw [fillTo_zero, hpl0.out]; exact HO4.out, HX4.out⟩
    case round =>
      obtain ⟨k, hk, rfl, rfl, ho, hxw⟩ := hrel.out
      clear hrel HO4 HX4
      by_cases hlt : k < n
      · obtain ⟨gb, ob, q1, q2⟩ := HRB3.out.ext hxw
        rw [HRL.out] at q1 q2
        obtain ⟨rfl, hgb⟩ := q1 (by omega)
        have cb := q2 k hlt
        have hfl : (fillTo (plTo rb n) k).length = n := by rw [fillTo_length _ _ (by rw [hpl0.out]; omega), hpl0.out]
        have ho2 : OwnI wr w3.heap.size 3 (.slice (some ⟨w3.heap.size, 0, none⟩) (fillTo (plTo rb n) k).length n) (fillTo (plTo rb n) k) := by rw [hfl]; exact ho
        obtain ⟨g, cap', hv, -, hgs, hcell, hfz⟩ := ho2.row (by rw [hfl]; omega)
        obtain ⟨rfl, -⟩ : w3.heap.size = g ∧ n = cap' := by simpa using hv
        have dk := hcell k (by rw [hfl]; omega)
        have fk := hfz k
        have hset0 := ho2.set k ((plc rb k : Nat) : Int)
        have hfs : (fillTo (plTo rb n) k).set k ((plc rb k : Nat) : Int) = fillTo (plTo rb n) (k + 1) := by
          have := fillTo_set (plTo rb n) k (by rw [hpl0.out]; omega)
          rw [plTo_get rb n k hlt] at this
          exact this
        have hset := Lib.hid (own_len hset0 hfs (by rw [fillTo_length _ _ (by rw [hpl0.out]; omega), hpl0.out]))
        have hxs := Lib.hid (hxw.setCell (p := ⟨w3.heap.size, k, none⟩) (Nat.le_refl _) (.int .i64 ((plc rb k : Nat) : Int)))
        have hon : Hid (nthB rb k = true → plc rb (k + 1) = plc rb k + 1) := fun h => plc_on h
        have hoff : Hid (nthB rb k = false → plc rb (k + 1) = plc rb k) := fun h => plc_off h
        have hpk := plc_le rb k
        have HXW := Lib.hid hxw
        clear q1 q2 ho hxw hfl ho2 hv hcell hfz hset0 hfs
        generalize hY : plc rb k = Y at *
        cases hbk : nthB rb k
        · have e1 := Lib.hid (hoff.out hbk)
          rw [hbk] at cb
          clear hon hoff
          go_wp2
          go_roundw
          case rel => exact Lib.hid ⟨k + 1, by omega, by go_num, by rw [e1.out], (by first | exact hset.out | exact hset.out.ext (by (repeat (first | exact Ext.refl _ | assumption | refine Ext.alloc ?_ _ | refine Ext.drewN ?_ _ | refine Ext.drew ?_)))), (by first | exact hxs.out | exact hxs.out.trans (by (repeat (first | exact Ext.refl _ | assumption | refine Ext.alloc ?_ _ | refine Ext.drewN ?_ _ | refine Ext.drew ?_))))⟩
          case measure => simp [intOf]; omega
        · have e1 := Lib.hid (hon.out hbk)
          rw [hbk] at cb
          clear hon hoff
          go_wp2
          go_roundw
          case rel => exact Lib.hid ⟨k + 1, by omega, by go_num, by rw [e1.out]; go_num, (by first | exact hset.out | exact hset.out.ext (by (repeat (first | exact Ext.refl _ | assumption | refine Ext.alloc ?_ _ | refine Ext.drewN ?_ _ | refine Ext.drew ?_)))), (by first | exact hxs.out | exact hxs.out.trans (by (repeat (first | exact Ext.refl _ | assumption | refine Ext.alloc ?_ _ | refine Ext.drewN ?_ _ | refine Ext.drew ?_))))⟩
          case measure => simp [intOf]; omega
      · obtain rfl : n = k := by omega
        have hfe : fillTo (plTo rb n) n = plTo rb n := by
          have := fillTo_end (plTo rb n)
          rw [hpl0.out] at this
          exact this
        rw [hfe] at ho
        have ip := ho.ints
        obtain ⟨wp, rfl⟩ : ∃ wp : World, wp = wr := ⟨_, rfl⟩
        have hxp := hx3.trans hxw
        have HM := Lib.hid (HM3.out.ext hxw)
        have HRB := Lib.hid (HRB3.out.ext hxw)
        have HPL := Lib.hid ip
        have hrbl := HRL.out
        clear ho hxw ip HM3 HRB3 hfe
        go_wp2
        go_loopw [9, 39] (fun v i wr => Hid (∃ k : Nat, k ≤ n ∧ i = .int .i64 k ∧ OwnF wr wp.heap.size 49 v (plc rb k) (outTo M rb k) ∧ Ext wp wr)) (fun _ i _ => n - (intOf i).toNat)
        case atStart => exact Lib.hid ⟨0, Nat.zero_le _, rfl, OwnF.nil _ _ _, Ext.refl _⟩
        case round =>
          obtain ⟨k, hk, rfl, ho, hxw⟩ := hrel.out
          clear hrel
          by_cases hlt : k < n
          · obtain ⟨gb, ob, q1, q2⟩ := HRB.out.ext hxw
            rw [hrbl] at q1 q2
            obtain ⟨rfl, hgb⟩ := q1 (by omega)
            have cb := q2 k hlt
            obtain ⟨gm, om, rfl, hgm, qm⟩ := (HM.out.ext hxw).cells (by omega)
            obtain ⟨m0, m1, m2⟩ := qm k hlt
            obtain ⟨gp, op, p1, p2⟩ := HPL.out.ext hxw
            rw [plTo_length] at p1 p2
            obtain ⟨ep, hgp⟩ := p1 (by omega)
            obtain ⟨rfl, rfl⟩ : w3.heap.size = gp ∧ 0 = op := by simpa using ep
            clear ep
            have HO := Lib.hid ho
            have HXW := Lib.hid hxw
            have HP2 := Lib.hid p2
            have zx := hxw.size
            have hins := insB_goes (HVM.out k hlt)
            have hon : Hid (nthB rb k = true → plc rb (k + 1) = plc rb k + 1 ∧ outTo M rb (k + 1) = outTo M rb k ++ [kd M k, ag M k, shT M rb k]) := fun h => ⟨plc_on h, outTo_on h⟩
            have hoff : Hid (nthB rb k = false → plc rb (k + 1) = plc rb k ∧ outTo M rb (k + 1) = outTo M rb k) := fun h => ⟨plc_off h, outTo_off h⟩
            have hsh : Hid (shT M rb k = if kd M k = 1 ∨ kd M k = 2 then ((plc rb (tg M k).toNat : Nat) : Int) else tg M k) := rfl
            unfold kd at hins hon hsh
            unfold ag at hon
            unfold tg at hins hsh
            have hpk := plc_le rb k
            clear q1 q2 qm p1 p2 ho hxw
            generalize nth M (k * 3) = K at *
            generalize nth M (k * 3 + 1) = A at *
            generalize nth M (k * 3 + 2) = T at *
            cases hbk : nthB rb k
            · obtain ⟨e1, e2⟩ := hoff.out hbk
              rw [hbk] at cb
              have HO' := HO
              rw [← e1, ← e2] at HO'
              clear e1 e2
              go_wp2
              go_roundw
              case rel => exact Lib.hid ⟨k + 1, by omega, by go_num, (by first | exact HO'.out | exact HO'.out.ext (by (repeat (first | exact Ext.refl _ | assumption | refine Ext.alloc ?_ _ | refine Ext.drewN ?_ _ | refine Ext.drew ?_)))), HXW.out.trans (by (repeat (first | exact Ext.refl _ | assumption | refine Ext.alloc ?_ _ | refine Ext.drewN ?_ _ | refine Ext.drew ?_)))⟩
              case measure => simp [intOf]; omega
            · obtain ⟨e1, e2⟩ := hon.out hbk
              rw [hbk] at cb
              by_cases hK : K = 1 ∨ K = 2
              · obtain ⟨hT0, hTn⟩ := hins hK
                obtain ⟨P, rfl⟩ := Int.eq_ofNat_of_zero_le hT0
                have hPn : P < n := by omega
                have cp := HP2.out P hPn
                rw [plTo_get rb n P hPn] at cp
                try rw [Nat.zero_add] at cp
                have hse : shT M rb k = ((plc rb P : Nat) : Int) := by rw [hsh.out, if_pos hK, Int.toNat_natCast]
                rw [hse] at e2
                have E1 := Lib.hid e1
                have E2 := Lib.hid e2
                clear hins hT0 hTn hsh hse hon hoff e1 e2
                generalize plc rb P = Y at *
                rcases hK with rfl | rfl
                · go_wp2_with (at_builtin; refine want_append_ins (by rfl) _ _ _ rfl wp.heap.size 49 Try.underlying29 infoIns _ (plc rb k) (outTo M rb k) rfl ?hoia _ 1 A ((Y : Nat) : Int) rfl ?caia ?cbia ?ccia (by omega) ?hBia ?_)
                  try (case hoia => first | exact HO.out | exact HO.out.ext (by (repeat (first | exact Ext.refl _ | assumption | refine Ext.alloc ?_ _ | refine Ext.drewN ?_ _ | refine Ext.drew ?_))))
                  try (case caia => simp [go_sem])
                  try (case cbia => simp [go_sem])
                  try (case ccia => simp [go_sem])
                  try (case hBia => first | exact zx | (simp; omega))
                  intro v' w' ho' hg'
                  have hx' := Lib.hid (OwnF.grown (HO.out.ext (by (repeat (first | exact Ext.refl _ | assumption | refine Ext.alloc ?_ _ | refine Ext.drewN ?_ _ | refine Ext.drew ?_)))) (HXW.out.trans (by (repeat (first | exact Ext.refl _ | assumption | refine Ext.alloc ?_ _ | refine Ext.drewN ?_ _ | refine Ext.drew ?_)))) hg')
                  rw [← E1.out, ← E2.out] at ho'
                  have HO' := Lib.hid ho'
                  clear ho' hg'
                  go_wp2
                  go_roundw
                  case rel => exact Lib.hid ⟨k + 1, by omega, by go_num, HO'.out, hx'.out⟩
                  case measure => simp [intOf]; omega
                · go_wp2_with (at_builtin; refine want_append_ins (by rfl) _ _ _ rfl wp.heap.size 49 Try.underlying29 infoIns _ (plc rb k) (outTo M rb k) rfl ?hoib _ 2 A ((Y : Nat) : Int) rfl ?caib ?cbib ?ccib (by omega) ?hBib ?_)
                  try (case hoib => first | exact HO.out | exact HO.out.ext (by (repeat (first | exact Ext.refl _ | assumption | refine Ext.alloc ?_ _ | refine Ext.drewN ?_ _ | refine Ext.drew ?_))))
                  try (case caib => simp [go_sem])
                  try (case cbib => simp [go_sem])
                  try (case ccib => simp [go_sem])
                  try (case hBib => first | exact zx | (simp; omega))
                  intro v' w' ho' hg'
                  have hx' := Lib.hid (OwnF.grown (HO.out.ext (by (repeat (first | exact Ext.refl _ | assumption | refine Ext.alloc ?_ _ | refine Ext.drewN ?_ _ | refine Ext.drew ?_)))) (HXW.out.trans (by (repeat (first | exact Ext.refl _ | assumption | refine Ext.alloc ?_ _ | refine Ext.drewN ?_ _ | refine Ext.drew ?_)))) hg')
                  rw [← E1.out, ← E2.out] at ho'
                  have HO' := Lib.hid ho'
                  clear ho' hg'
                  go_wp2
                  go_roundw
                  case rel => exact Lib.hid ⟨k + 1, by omega, by go_num, HO'.out, hx'.out⟩
                  case measure => simp [intOf]; omega
              · have hse : shT M rb k = T := by rw [hsh.out, if_neg hK]
                rw [hse] at e2
                have k1 : (K == 1) = false := by simp; omega
                have k2 : (K == 2) = false := by simp; omega
                have E1 := Lib.hid e1
                have E2 := Lib.hid e2
                clear hins hsh hse hK hon hoff e1 e2
                go_wp2_with (at_builtin; refine want_append_ins (by rfl) _ _ _ rfl wp.heap.size 49 Try.underlying29 infoIns _ (plc rb k) (outTo M rb k) rfl ?hoic _ K A T rfl ?caic ?cbic ?ccic (by omega) ?hBic ?_)
                try (case hoic => first | exact HO.out | exact HO.out.ext (by (repeat (first | exact Ext.refl _ | assumption | refine Ext.alloc ?_ _ | refine Ext.drewN ?_ _ | refine Ext.drew ?_))))
                try (case caic => simp [go_sem])
                try (case cbic => simp [go_sem])
                try (case ccic => simp [go_sem])
                try (case hBic => first | exact zx | (simp; omega))
                intro v' w' ho' hg'
                have hx' := Lib.hid (OwnF.grown (HO.out.ext (by (repeat (first | exact Ext.refl _ | assumption | refine Ext.alloc ?_ _ | refine Ext.drewN ?_ _ | refine Ext.drew ?_)))) (HXW.out.trans (by (repeat (first | exact Ext.refl _ | assumption | refine Ext.alloc ?_ _ | refine Ext.drewN ?_ _ | refine Ext.drew ?_)))) hg')
                rw [← E1.out, ← E2.out] at ho'
                have HO' := Lib.hid ho'
                clear ho' hg'
                go_wp2
                go_roundw
                case rel => exact Lib.hid ⟨k + 1, by omega, by go_num, HO'.out, hx'.out⟩
                case measure => simp [intOf]; omega
          · obtain rfl : k = n := by omega
            have HO := Lib.hid ho
            have HXW := Lib.hid hxw
            clear ho hxw
            go_wp2
            go_ret
            exact ⟨_, rfl, by rw [hN.out, hT.out]; exact HO.out.mono hxp.size, hxp.trans HXW.out⟩
end Go.Proofs.Ytnhdachenckceaa
