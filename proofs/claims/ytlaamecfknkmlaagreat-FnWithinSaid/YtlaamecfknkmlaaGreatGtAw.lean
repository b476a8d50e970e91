/- Merged texts: contracts and plain lemmas (Aw). -/
import Derived.Test.YtlaamecfknkmlaaGreatGt10
import Derived.Test.YtlaamecfknkmlaaGreatGtYm
namespace Go.Proofs.YtlaamecfknkmlaaGreat
set_option linter.unusedVariables false
open Go.RowKit Go.Kt

theorem indexFuncP_c (a : Option Addr) (cap : Nat) (l : List (List Int)) (cv : Value) (p : List Int → Bool) (w : World) (hl : RowsAt w a l) (hlen : l.length ≤ 4611686018427387904)
    (hf : ∀ ai ci r w1, r ∈ l → Ext w w1 → IntsAt w1 ai r → Calls Tryz.prog 168 #[.slice ai r.length ci, cv] w1 fun e w' => e = .returned (.bool (p r)) ∧ Ext w1 w') :
    Calls Tryz.prog 134 #[.slice a l.length cap, .func (.func 168) #[] #[cv]] w fun e w' => e = .returned (.int .i64 (findR p l)) ∧ Ext w w' := by
  obtain ⟨b, off, h1, h2⟩ := hl
  have H1 := Lib.hid h1
  have H2 := Lib.hid h2
  have HF := Lib.hid hf
  clear h1 h2 hf
  go_enter Tryz.func134, Tryz.ntmps134
  go_wp2
  go_loopw [8] (fun i wr => Hid (∃ k : Nat, k ≤ l.length ∧ i = .int .i64 k ∧ (∀ j, j < k → p (rowI l j) = false) ∧ Ext w wr)) (fun i _ => l.length - (intOf i).toNat)
  case atStart => exact Lib.hid ⟨0, Nat.zero_le _, rfl, fun j hj => absurd hj (Nat.not_lt_zero _), Ext.refl _⟩
  case round =>
    obtain ⟨k, hk, rfl, hno, hx⟩ := hrel.out
    clear hrel
    have hno' := Lib.hid hno
    clear hno
    by_cases hlt : k < l.length
    · obtain ⟨rfl, hb⟩ := H1.out (by omega)
      obtain ⟨ai, ci, hcw, hi⟩ := H2.out k hlt
      have hc := hx.cell' hcw hb
      have hmem := rowI_mem l k hlt
      cases hp : p (rowI l k)
      all_goals
        have hp' := Lib.hid hp
        have hcall := Lib.hid (HF.out ai ci (rowI l k) wr hmem hx (hi.ext hx))
        rw [hp] at hcall
        clear hp hmem hcw hi
        go_wp2_with fail
        refine (hcall.out).mono ?_
        rintro e w1 ⟨rfl, hx1⟩
        go_wp2
      · go_roundw
        case rel => exact Lib.hid ⟨k + 1, by omega, by go_num, upto_succ hno'.out hp'.out, hx.trans hx1⟩
        case measure => simp [intOf]; omega
      · go_ret
        exact ⟨by rw [findR_at p l k hlt hno'.out hp'.out]; rfl, hx.trans hx1⟩
    · obtain rfl : k = l.length := by omega
      go_wp2
      go_ret
      exact ⟨by rw [findR_none p l hno'.out]; rfl, hx⟩
theorem partClosure_c (b : Nat) (q x : List Int) (aq ai : Option Addr) (cq ci : Nat) (w : World) (hq : IntsAt w aq q) (hi : IntsAt w ai x) (h1 : q.length ≤ 4611686018427387904) (h2 : x.length ≤ 4611686018427387904) (hb : w.cell? ⟨b, 0, none⟩ = some (.slice aq q.length cq)) :
    Calls Tryz.prog 168 #[.slice ai x.length ci, .pointer (some ⟨b, 0, none⟩)] w fun e w' => e = .returned (.bool (decide (q = x))) ∧ Ext w w' := by
  have hbe : (q == x) = decide (q = x) := by rw [Bool.eq_iff_iff, decide_eq_true_eq, beq_iff_eq]
  have CE := Lib.hid (equal_c aq ai cq ci q x w hq hi h1 h2)
  rw [hbe] at CE
  clear hbe
  clear hq hi
  generalize decide (q = x) = B at *
  generalize q.length = n at *
  generalize x.length = m at *
  go_enter Tryz.func168, Tryz.ntmps168
  go_wp2_with fail
  refine CE.out.mono ?_
  rintro e w1 ⟨rfl, m1, rfl⟩
  go_wp2
  go_ret
  exact ⟨rfl, by (repeat (first | exact Ext.refl _ | assumption | refine Ext.alloc ?_ _ | refine Ext.drewN ?_ _ | refine Ext.drew ?_))⟩
theorem partAt_c (a ai : Option Addr) (c ci : Nat) (L : List (List Int)) (q : List Int) (w : World) (hL : RowsAt w a L) (hq : IntsAt w ai q) (h1 : L.length ≤ 4611686018427387904) (h2 : q.length ≤ 4611686018427387904) (h3 : ∀ x, x ∈ L → x.length ≤ 4611686018427387904) :
    Calls Tryz.prog 156 #[.slice a L.length c, .slice ai q.length ci] w fun e w' => e = .returned (.int .i64 (findR (fun x => decide (q = x)) L)) ∧ Ext w w' := by
  have CI : Hid (∀ w' g, Ext w w' → w'.cell? ⟨g, 0, none⟩ = some (.slice ai q.length ci) → Calls Tryz.prog 134 #[.slice a L.length c, .func (.func 168) #[] #[.pointer (some ⟨g, 0, none⟩)]] w' fun e w'' => e = .returned (.int .i64 (findR (fun x => decide (q = x)) L)) ∧ Ext w' w'') := fun w' g x hg =>
    indexFuncP_c a c L _ (fun x => decide (q = x)) w' (hL.ext x) h1 fun ai' ci' r w1 hr x1 hi => partClosure_c g q r ai ai' ci ci' w1 ((hq.ext x).ext x1) hi h2 (h3 r hr) (x1.cell' hg (lt_of_cell hg))
  clear hL hq h3
  generalize findR (fun x => decide (q = x)) L = R at *
  generalize q.length = n at *
  generalize L.length = m at *
  go_enter Tryz.func156, Tryz.ntmps156
  go_wp2_with fail
  refine (CI.out _ _ (by (repeat (first | exact Ext.refl _ | assumption | refine Ext.alloc ?_ _ | refine Ext.drewN ?_ _ | refine Ext.drew ?_))) (by simp [go_sem])).mono ?_
  rintro e w1 ⟨rfl, x1⟩
  have X1 := Lib.hid (Ext.trans (show Ext w _ by (repeat (first | exact Ext.refl _ | assumption | refine Ext.alloc ?_ _ | refine Ext.drewN ?_ _ | refine Ext.drew ?_))) x1)
  clear x1 CI
  go_wp2
  go_ret
  exact ⟨rfl, X1.out⟩
set_option maxRecDepth 100000 in
set_option maxHeartbeats 4000000 in
theorem allParts_c (a : Option Addr) (c : Nat) (t : Kt) (w : World) (hg : t.Good) (hw : t.words.length ≤ 40) (he : IntsAt w a t.words) :
    Calls Tryz.prog 155 #[.slice a t.words.length c] w (RetLs (ek 3) 23 w (allL t.words)) := by
  have hwp := t.words_pos
  have CC := Lib.hid (cloneI_c a c t.words w he (by omega) (by omega))
  have HT := Lib.hid hg
  have HW := Lib.hid hw
  clear he
  generalize hn : t.words.length = n at *
  have HN := Lib.hid hn
  clear hn
  go_enter Tryz.func155, Tryz.ntmps155
  go_wp2_with fail
  refine CC.out.mono ?_
  rintro e w1 ⟨v1, rfl, o1, x1⟩
  obtain ⟨a1, c1, rfl, -⟩ := o1.shape
  have f1 := o1.fit
  have I1 := Lib.hid o1.intsE
  have X1 := Lib.hid x1
  have hz1 := x1.size
  have hw1 : t.words.length ≤ 40 := by rw [HN.out]; exact hw
  clear CC o1
  go_wp2
  go_loopw [3, 4] (fun v i wr => Hid (∃ k : Nat, k ≤ 41 ∧ i = .int .i64 k ∧ k ≤ (clL t.words k).length ∧ OwnLs wr w.heap.size (ek 3) 23 v (clL t.words k) ∧ Ext w wr)) (fun _ i _ => 41 - (intOf i).toNat)
  case atStart => exact Lib.hid ⟨0, Nat.zero_le _, rfl, Nat.zero_le _, OwnLs.lit _ I1.out f1 hz1, by (repeat (first | exact Ext.refl _ | assumption | refine Ext.alloc ?_ _ | refine Ext.drewN ?_ _ | refine Ext.drew ?_))⟩
  case round =>
    obtain ⟨k, hk41, rfl, hkl, ho, hx⟩ := hrel.out
    clear hrel
    have HKL := Lib.hid hkl
    obtain ⟨av, cv, rfl⟩ := ho.shape
    have HO := Lib.hid ho
    have HX := Lib.hid hx
    have hz := hx.size
    have hlen := clL_len HT.out hw1 k
    clear hkl ho hx
    by_cases hlt : k < (clL t.words k).length
    · obtain ⟨wo, hwo⟩ : ∃ wo, wo = wr := ⟨_, rfl⟩
      subst hwo
      obtain ⟨gS, rfl, -, zS, -, hrows⟩ := HO.out.row (by omega)
      obtain ⟨ai, ci, r1, r2, r3⟩ := hrows k hlt
      have hxl : Go.Kt.Left t (rowI (clL t.words k) k) := clL_left HT.out k _ (by rw [rowI_getElem _ _ hlt]; exact List.getElem_mem hlt)
      have HX0 := Lib.hid hxl
      have HSucc : Hid (clL t.words (k + 1) = addM (clL t.words k) (rowI (clL t.words k) k) 12) := by unfold Hid; rw [clL_succ, if_pos hlt]
      have HND := Lib.hid (nodup_clL t.words k)
      have HCL : Hid (∀ y, y ∈ clL t.words k → Go.Kt.Left t y) := clL_left HT.out k
      have hpos := clL_pos t.words k
      have hk1 : k + 1 ≤ (clL t.words (k + 1)).length := by have := clL_le t.words k; omega
      have HK1 := Lib.hid hk1
      obtain ⟨q, hq, hqw, hql⟩ := hxl
      have hqb := left_bnd hw1 hql
      have HMv : Hid (∀ A C : Nat, C < 3 → movL (rowI (clL t.words k) k) (3 * A + C) = partsL A (16 + (C : Int)) q) := fun A C hC => by
        unfold movL
        rw [← hqw, treeW_words hq, show (3 * A + C) / 3 = A by omega, show (3 * A + C) % 3 = C by omega]
      have CB : Hid (∀ w', Ext wo w' → Calls Tryz.prog 69 #[.slice ai (rowI (clL t.words k) k).length ci] w' (RetT w' q)) := fun w' x => by
        rw [← hqw] at r3 ⊢
        exact buildL_c ai ci q.words q w' ((r3.ext x).1) hq rfl (KvL.words hq (by omega))
      have CP : Hid (∀ (A C : Nat) w' g', A < 4 → C < 3 → TreeAt w' (fun _ => False) q g' → Calls Tryz.prog 70 #[.pointer (some ⟨g', 0, none⟩), .int .i64 A, .int .i64 (16 + (C : Int))] w' (RetLs (ek 3) 23 w' (partsL A (16 + (C : Int)) q))) := fun A C w' g' hA hC x => parts_c A (16 + (C : Int)) (by omega) (by omega) (by omega) q hq (by omega) (by omega) g' w' x (fun _ => False) (fun _ h => h.elim)
      clear r2 r3 hrows hk1
      generalize hL : clL t.words k = L at *
      generalize hx0 : rowI L k = x0 at *
      generalize hnr : x0.length = nr at *
      have HNR := Lib.hid hnr
      clear hnr
      go_wp2_with fail
      refine (CB.out _ (Ext.refl _)).mono ?_
      rintro e wb ⟨gq, rfl, tq, yb⟩
      have OB := Lib.hid (HO.out.ext yb)
      have TB := Lib.hid (TreeAt.beside OB.out (by omega) tq)
      have XB := Lib.hid (HX.out.trans yb)
      clear tq yb CB
      generalize hv0 : Value.slice (some ⟨gS, 0, none⟩) L.length cv = v0 at *
      have hL41 : Hid (∀ m j, (addL (addM L x0 m) ((movL x0 m).take j)).length ≤ 41) := fun m j => way_len HT.out hw1 HND.out HCL.out HX0.out m j
      have hRow : Hid (∀ m y, y ∈ movL x0 m → 1 ≤ y.length ∧ y.length ≤ 1640) := fun m y hy => movL_row HT.out hw1 HX0.out hy
      have hRowA : Hid (∀ m j y, y ∈ addL (addM L x0 m) ((movL x0 m).take j) → y.length ≤ 1640) := fun m j y hy => by
        obtain ⟨q', h1, rfl, h2⟩ := addL_left (addM_left HT.out HCL.out HX0.out m) (fun y hy => movL_left' HT.out HX0.out (List.mem_of_mem_take hy)) y hy
        exact (left_bnd hw1 h2).2
      go_wp2
      go_loopw [3, 24] (fun v i wr => Hid (∃ A : Nat, A ≤ 4 ∧ i = .int .i64 A ∧ OwnLs wr w.heap.size (ek 3) 23 v (addM L x0 (3 * A)) ∧ TreeAt wr (fun k => v.ownBlock = some k) q gq ∧ Ext w wr)) (fun _ i _ => 4 - (intOf i).toNat)
      case atStart => exact Lib.hid ⟨0, by omega, rfl, OB.out, TB.out, XB.out⟩
      case round =>
        obtain ⟨A, hA, rfl, ho2, ht2, hx2⟩ := hrel.out
        have HO2 := Lib.hid ho2
        have HT2 := Lib.hid ht2
        have HX2 := Lib.hid hx2
        clear hrel ho2 ht2 hx2
        by_cases hA4 : A < 4
        · have hA4i : (A : Int) < 4 := by omega
          obtain ⟨wo2, hwo2⟩ : ∃ wo, wo = wr := ⟨_, rfl⟩
          subst hwo2
          go_wp2
          go_loopw [3, 7] (fun v i wr => Hid (∃ C : Nat, C ≤ 3 ∧ i = .int .i64 (16 + (C : Int)) ∧ OwnLs wr w.heap.size (ek 3) 23 v (addM L x0 (3 * A + C)) ∧ TreeAt wr (fun k => v.ownBlock = some k) q gq ∧ Ext w wr)) (fun _ i _ => 19 - (intOf i).toNat)
          case atStart => exact Lib.hid ⟨0, by omega, rfl, HO2.out, HT2.out, HX2.out⟩
          case round =>
            obtain ⟨C, hC, rfl, ho3, ht3, hx3⟩ := hrel.out
            have HO3 := Lib.hid ho3
            have HT3 := Lib.hid ht3
            have HX3 := Lib.hid hx3
            clear hrel ho3 ht3 hx3
            by_cases hC3 : C < 3
            · have hC3i : 16 + (C : Int) ≤ 18 := by omega
              obtain ⟨wo3, hwo3⟩ : ∃ wo, wo = wr := ⟨_, rfl⟩
              subst hwo3
              have hAC : Hid (addL (addM L x0 (3 * A + C)) (movL x0 (3 * A + C)) = addM L x0 (3 * A + (C + 1))) := rfl
              have hlA := hL41.out (3 * A + C)
              have HLA := Lib.hid hlA
              have HRA := Lib.hid (hRowA.out (3 * A + C))
              have HR := Lib.hid (hRow.out (3 * A + C))
              have hPl : (partsL A (16 + (C : Int)) q).length ≤ 1640 := by have := partsL_len A (16 + (C : Int)) q; omega
              rw [HMv.out A C hC3] at hAC HLA HRA HR
              have CP1 := Lib.hid (CP.out A C wo3 gq hA4 hC3 HT3.out.free)
              clear hlA
              generalize partsL A (16 + (C : Int)) q = P at *
              generalize hM : addM L x0 (3 * A + C) = M at *
              clear hM
              go_wp2_with fail
              refine CP1.out.mono ?_
              rintro e wp ⟨vp, rfl, op, yp⟩
              obtain ⟨ap, cp, rfl⟩ := op.shape
              have OP := Lib.hid op
              have BP := Lib.hid (Bes.of HO3.out op)
              have OM := Lib.hid (HO3.out.ext yp)
              have TM := Lib.hid (HT3.out.ext yp)
              have XM := Lib.hid (HX3.out.trans yp)
              clear op yp CP1
              generalize hm : P.length = m at *
              have HM := Lib.hid hm
              clear hm
              go_wp2
              go_loopw [3, 36] (fun v i wr => Hid (∃ j : Nat, j ≤ m ∧ i = .int .i64 j ∧ OwnLs wr w.heap.size (ek 3) 23 v (addL M (P.take j)) ∧ OwnLs wr wo3.heap.size (ek 3) 23 (.slice ap m cp) P ∧ Bes v (.slice ap m cp) ∧ TreeAt wr (fun k => v.ownBlock = some k) q gq ∧ Ext w wr)) (fun _ i _ => m - (intOf i).toNat)
              case atStart => exact Lib.hid ⟨0, by omega, rfl, OM.out, OP.out, BP.out, TM.out, XM.out⟩
              case round =>
                obtain ⟨j, hj, rfl, ho4, hp4, hb4, ht4, hx4⟩ := hrel.out
                obtain ⟨a4, c4, rfl⟩ := ho4.shape
                have HO4 := Lib.hid ho4
                have HP4 := Lib.hid hp4
                have HB4 := Lib.hid hb4
                have HT4 := Lib.hid ht4
                have HX4 := Lib.hid hx4
                have hz4 := hx4.size
                have hl4 := HLA.out j
                clear hrel ho4 hp4 hb4 ht4 hx4
                by_cases hjm : j < m
                · have hjP : j < P.length := by rw [HM.out]; exact hjm
                  obtain ⟨gP, rfl, -, zP, -, hrows⟩ := HP4.out.row (by omega)
                  obtain ⟨aj, cj, r1, r2, r3⟩ := hrows j hjP
                  have hmem : rowI P j ∈ P := by rw [rowI_getElem _ _ hjP]; exact List.getElem_mem hjP
                  have hlj := HR.out _ hmem
                  have hTk := addL_take (out := M) hjP
                  have CA := Lib.hid (partAt_c a4 aj c4 cj (addL M (P.take j)) (rowI P j) wr HO4.out.rows r3.1 (by omega) (by omega) (fun x hx => by have := HRA.out j x hx; omega))
                  have R3 := Lib.hid r3
                  clear r3 hrows hmem
                  by_cases hin : rowI P j ∈ addL M (P.take j)
                  · rw [if_pos hin] at hTk
                    have HTk := Lib.hid hTk
                    have hR : ¬ findR (fun x => decide (rowI P j = x)) (addL M (P.take j)) < 0 := by
                      have := plc_neg (addL M (P.take j)) (rowI P j)
                      rw [decide_eq_decide] at this
                      rw [this]; exact fun h => h hin
                    generalize findR (fun x => decide (rowI P j = x)) (addL M (P.take j)) = R at *
                    clear hin hTk
                    generalize addL M (P.take j) = Lj at *
                    generalize (rowI P j).length = lj at *
                    go_wp2_with fail
                    refine CA.out.mono ?_
                    rintro e wq ⟨rfl, yq⟩
                    have YQ := Lib.hid yq
                    clear yq CA
                    go_wp2
                    go_roundw
                    case rel => exact Lib.hid ⟨j + 1, by omega, by go_num, by rw [HTk.out]; exact HO4.out.ext YQ.out, HP4.out.ext YQ.out, HB4.out, HT4.out.ext YQ.out, HX4.out.trans YQ.out⟩
                    case measure => simp [intOf]; omega
                  · rw [if_neg hin] at hTk
                    have HTk := Lib.hid hTk
                    have hR : findR (fun x => decide (rowI P j = x)) (addL M (P.take j)) < 0 := by
                      have := plc_neg (addL M (P.take j)) (rowI P j)
                      rw [decide_eq_decide] at this
                      rw [this]; exact hin
                    generalize findR (fun x => decide (rowI P j = x)) (addL M (P.take j)) = R at *
                    clear hin hTk
                    generalize addL M (P.take j) = Lj at *
                    have HRl : Hid ((rowI P j).length = (rowI P j).length) := rfl
                    generalize hlr : (rowI P j).length = lj at *
                    have HLR := Lib.hid hlr
                    clear hlr HRl
                    go_wp2_with fail
                    refine CA.out.mono ?_
                    rintro e wq ⟨rfl, yq⟩
                    have YQ := Lib.hid yq
                    have zq := yq.size
                    clear yq CA
                    go_wp2_with (at_builtin; refine any_append_lsA (by rfl) _ _ _ rfl w.heap.size (ek 3) 23 neE Tryz.underlying24 infoInts _ Lj rfl (HO4.out.ext (YQ.out.trans (by (repeat (first | exact Ext.refl _ | assumption | refine Ext.alloc ?_ _ | refine Ext.drewN ?_ _ | refine Ext.drew ?_))))) wq.heap.size aj cj (rowI P j) rfl (by rw [HLR.out]; simp [go_sem]) (R3.out.ext (YQ.out.trans (by (repeat (first | exact Ext.refl _ | assumption | refine Ext.alloc ?_ _ | refine Ext.drewN ?_ _ | refine Ext.drew ?_))))) (by rw [HLR.out]; exact r2) (by omega) (by first | omega | (simp; omega)) ?_)
                    intro v5 w5 o5 g5 t5
                    have E5 := Lib.hid (OwnLs.grown (w0 := w) (HO4.out.ext (YQ.out.trans (by (repeat (first | exact Ext.refl _ | assumption | refine Ext.alloc ?_ _ | refine Ext.drewN ?_ _ | refine Ext.drew ?_))))) (HX4.out.trans (YQ.out.trans (by (repeat (first | exact Ext.refl _ | assumption | refine Ext.alloc ?_ _ | refine Ext.drewN ?_ _ | refine Ext.drew ?_))))) g5)
                    have P5 := Lib.hid (OwnLs.beside (HP4.out.ext (YQ.out.trans (by (repeat (first | exact Ext.refl _ | assumption | refine Ext.alloc ?_ _ | refine Ext.drewN ?_ _ | refine Ext.drew ?_))))) (HO4.out.ext (YQ.out.trans (by (repeat (first | exact Ext.refl _ | assumption | refine Ext.alloc ?_ _ | refine Ext.drewN ?_ _ | refine Ext.drew ?_))))) HB4.out g5 neE)
                    have B5 := Lib.hid (Bes.pushed HB4.out (HP4.out.ext (show Ext wr (wq.alloc (.cells #[.slice aj lj cj] 23)) from YQ.out.trans (by (repeat (first | exact Ext.refl _ | assumption | refine Ext.alloc ?_ _ | refine Ext.drewN ?_ _ | refine Ext.drew ?_))))) (by first | exact t5 | simpa using t5))
                    have T5 := Lib.hid (TreeAt.pushed (HT4.out.ext (YQ.out.trans (by (repeat (first | exact Ext.refl _ | assumption | refine Ext.alloc ?_ _ | refine Ext.drewN ?_ _ | refine Ext.drew ?_))))) g5 (by first | exact t5 | simpa using t5))
                    rw [← HTk.out] at o5
                    have O5 := Lib.hid o5
                    clear o5 g5 t5
                    go_wp2
                    go_roundw
                    case rel => exact Lib.hid ⟨j + 1, by omega, by go_num, O5.out, P5.out, B5.out, T5.out, E5.out⟩
                    case measure => simp [intOf]; omega
                · have hM2 : Hid (addL M (P.take j) = addM L x0 (3 * A + (C + 1))) := by
                    unfold Hid
                    rw [show j = P.length by rw [HM.out]; omega, List.take_length]
                    exact hAC.out
                  have O4 : Hid (OwnLs wr w.heap.size (ek 3) 23 (.slice a4 (addL M (P.take j)).length c4) (addM L x0 (3 * A + (C + 1)))) := by
                    unfold Hid; rw [← hM2.out]; exact HO4.out
                  clear HO4
                  go_wp2
                  go_roundw
                  case rel => exact Lib.hid ⟨C + 1, by omega, by go_num, O4.out, HT4.out, HX4.out⟩
                  case measure => simp [intOf]; omega
            · obtain rfl : C = 3 := by omega
              go_wp2
              go_roundw
              case rel => exact Lib.hid ⟨A + 1, by omega, by go_num, HO3.out, HT3.out, HX3.out⟩
              case measure => simp [intOf]; omega
        · obtain rfl : A = 4 := by omega
          go_wp2
          go_roundw
          case rel => exact Lib.hid ⟨k + 1, by omega, by go_num, HK1.out, by rw [HSucc.out]; exact HO2.out, HX2.out⟩
          case measure => simp [intOf]; omega
    · have HA := Lib.hid (allL_of (e := t.words) hk41 (by omega))
      go_wp2
      go_ret
      exact ⟨_, rfl, by rw [HA.out]; exact HO.out, HX.out⟩
end Go.Proofs.YtlaamecfknkmlaaGreat
