/- Merged texts: contracts and plain lemmas (Sj, Sl). -/
import Derived.Test.YtlaamecfknkmlaaGreatGt9
import Derived.Test.YtlaamecfknkmlaaGreatGt10
import Derived.Test.YtlaamecfknkmlaaGreatGt2
namespace Go.Kt
set_option linter.unusedVariables false
theorem mem_take_succ {L : List (List Int)} {k : Nat} (h : k < L.length) (x : List Int) : x ∈ L.take (k + 1) ↔ x ∈ L.take k ∨ x = rowI L k := by
  rw [List.take_add_one, List.getElem?_eq_getElem h, List.mem_append, rowI_getElem _ _ h]; simp
theorem IntsE.addr {w : World} {E : Ek} {a : Option Addr} {l : List Int} (h : IntsE w E a l) (h0 : 0 < l.length) : ∃ b off, a = some ⟨b, off, none⟩ := by
  obtain ⟨⟨b, off, h1, -⟩, -⟩ := h
  exact ⟨b, off, (h1 h0).1⟩
end Go.Kt
namespace Go.Proofs.YtlaamecfknkmlaaGreat
set_option linter.unusedVariables false
open Go.RowKit Go.Kt
set_option maxHeartbeats 1000000 in
theorem l4Has_c (a b : Option Addr) (c d : Nat) (L : List (List Int)) (x : List Int) (w : World) (hL : RowsAt w a L) (hx : IntsAt w b x) (h1 : L.length ≤ 4611686018427387904) (h2 : x.length ≤ 4611686018427387904) (h3 : ∀ y, y ∈ L → y.length ≤ 4611686018427387904) :
    Calls Tryz.prog 121 #[.slice a L.length c, .slice b x.length d] w fun e w' => e = .returned (.bool (decide (x ∈ L))) ∧ Ext w w' := by
  have HL := Lib.hid hL
  have CS : Hid (∀ w' k ai ci, Ext w w' → k < L.length → IntsAt w' ai (rowI L k) → Calls Tryz.prog 160 #[.slice ai (rowI L k).length ci, .slice b x.length d] w' fun e w'' => e = .returned (.bool (decide (rowI L k = x))) ∧ Ext w' w'') := fun w' k ai ci y hk i => l1Same_c ai b ci d (rowI L k) x w' i (hx.ext y) (by have := h3 _ (rowI_mem2 hk); omega) (by omega)
  have HThere : Hid (∀ k, k < L.length → rowI L k = x → decide (x ∈ L) = true) := fun k hk e => by rw [← e]; exact decide_eq_true (rowI_mem2 hk)
  have HNot : Hid (x ∉ L.take L.length → decide (x ∈ L) = false) := fun h => by rw [List.take_length] at h; exact decide_eq_false h
  have HSt : Hid (∀ k, k < L.length → x ∉ L.take k → rowI L k ≠ x → x ∉ L.take (k + 1)) := fun k hk h hn hm => by
    rcases (mem_take_succ hk x).1 hm with h' | h'
    · exact h h'
    · exact hn h'.symm
  have H0 : Hid (x ∉ L.take 0) := by unfold Hid; simp
  clear hL hx h3
  generalize decide (x ∈ L) = F at *
  obtain ⟨n, hn⟩ : ∃ n, n = L.length := ⟨_, rfl⟩
  have HN := Lib.hid hn
  rw [← hn] at h1 ⊢
  clear hn
  go_enter Tryz.func121, Tryz.ntmps121
  go_wp2
  go_loopw [5] (fun i wr => Hid (∃ k : Nat, k ≤ n ∧ i = .int .i64 k ∧ x ∉ L.take k ∧ Ext w wr)) (fun i _ => n - (intOf i).toNat)
  case atStart => exact Lib.hid ⟨0, Nat.zero_le _, rfl, H0.out, by (repeat (first | exact Ext.refl _ | assumption | refine Ext.alloc ?_ _ | refine Ext.drewN ?_ _ | refine Ext.drew ?_))⟩
  case round =>
    obtain ⟨k, hk, rfl, hni, hy⟩ := hrel.out
    have HNI := Lib.hid hni
    have HX := Lib.hid hy
    clear hrel hni hy
    by_cases hkn : k < n
    · have hki : (k : Int) < (n : Int) := by omega
      have hkl : k < L.length := by rw [← HN.out]; exact hkn
      obtain ⟨g, off, q1, q2⟩ := HL.out
      obtain ⟨rfl, hg⟩ := q1 (by omega)
      obtain ⟨ai, ci, d0, hi⟩ := q2 k hkl
      have d1 := HX.out.cell' d0 hg
      have HI := Lib.hid hi
      have CS1 : Hid (∀ w', Ext w w' → Calls Tryz.prog 160 #[.slice ai (rowI L k).length ci, .slice b x.length d] w' fun e w'' => e = .returned (.bool (decide (rowI L k = x))) ∧ Ext w' w'') := fun w' y => CS.out w' k ai ci y hkl (HI.out.ext y)
      clear q1 q2 d0 hi CS
      by_cases he : rowI L k = x
      · have HR := Lib.hid (HThere.out k hkl he)
        rw [decide_eq_true he] at CS1
        clear HThere HNot HSt he HNI
        generalize (rowI L k).length = nr at *
        generalize x.length = nx at *
        go_wp2_with (go_at_call 160; refine (CS1.out _ (HX.out.trans (by (repeat (first | exact Ext.refl _ | assumption | refine Ext.alloc ?_ _ | refine Ext.drewN ?_ _ | refine Ext.drew ?_))))).mono ?_; rintro e w2 ⟨rfl, x2⟩; have X2 := Lib.hid (HX.out.trans (Ext.trans (by (repeat (first | exact Ext.refl _ | assumption | refine Ext.alloc ?_ _ | refine Ext.drewN ?_ _ | refine Ext.drew ?_))) x2)); clear x2)
        go_ret
        exact ⟨by rw [HR.out]; rfl, X2.out.trans (by (repeat (first | exact Ext.refl _ | assumption | refine Ext.alloc ?_ _ | refine Ext.drewN ?_ _ | refine Ext.drew ?_)))⟩
      · have HR := Lib.hid (HSt.out k hkl HNI.out he)
        rw [decide_eq_false he] at CS1
        clear HThere HNot HSt he HNI
        generalize (rowI L k).length = nr at *
        generalize x.length = nx at *
        go_wp2_with (go_at_call 160; refine (CS1.out _ (HX.out.trans (by (repeat (first | exact Ext.refl _ | assumption | refine Ext.alloc ?_ _ | refine Ext.drewN ?_ _ | refine Ext.drew ?_))))).mono ?_; rintro e w2 ⟨rfl, x2⟩; have X2 := Lib.hid (HX.out.trans (Ext.trans (by (repeat (first | exact Ext.refl _ | assumption | refine Ext.alloc ?_ _ | refine Ext.drewN ?_ _ | refine Ext.drew ?_))) x2)); clear x2)
        go_roundw
        case rel => exact Lib.hid ⟨k + 1, by omega, by go_num, HR.out, X2.out.trans (by (repeat (first | exact Ext.refl _ | assumption | refine Ext.alloc ?_ _ | refine Ext.drewN ?_ _ | refine Ext.drew ?_)))⟩
        case measure => simp [intOf]; omega
    · obtain rfl : k = n := by omega
      have HR := Lib.hid (HNot.out (by rw [← HN.out]; exact HNI.out))
      clear HThere HNot HSt HNI CS
      go_wp2
      go_ret
      exact ⟨by rw [HR.out]; rfl, HX.out.trans (by (repeat (first | exact Ext.refl _ | assumption | refine Ext.alloc ?_ _ | refine Ext.drewN ?_ _ | refine Ext.drew ?_)))⟩
set_option maxRecDepth 100000 in
set_option maxHeartbeats 4000000 in
theorem l4All_c (a : Option Addr) (c : Nat) (t : Kt) (w : World) (hg : t.Good) (hw : t.words.length ≤ 40) (he : IntsAt w a t.words) :
    Calls Tryz.prog 157 #[.slice a t.words.length c] w (RetLs (ek 3) 23 w (allL t.words)) := by
  have hwp := t.words_pos
  have HT := Lib.hid hg
  have HW := Lib.hid hw
  have HE := Lib.hid he
  have hw1 : t.words.length ≤ 40 := hw
  clear he
  have HN : Hid (t.words.length = t.words.length) := rfl
  go_enter Tryz.func157, Tryz.ntmps157
  go_wp2_with (at_builtin; refine any_append_ints (by rfl) _ _ _ rfl (w.heap.size) 3 Tryz.underlying23 infoInt _ ([]) rfl (by first | exact OwnI.empty _ _ | exact (OwnI.empty _ _).ext (by (repeat (first | exact Ext.refl _ | assumption | refine Ext.alloc ?_ _ | refine Ext.drewN ?_ _ | refine Ext.drew ?_)))) _ _ (t.words) rfl (HE.out.ext (by (repeat (first | exact Ext.refl _ | assumption | refine Ext.alloc ?_ _ | refine Ext.drewN ?_ _ | refine Ext.drew ?_)))) (by first | omega | (simp; omega)) (by first | omega | (simp; done) | (simp; omega)) ?_)
  intro v1 w1 o1 g1
  have X1 := Lib.hid (OwnI.grown (w0 := w) (by first | exact OwnI.empty _ _ | exact (OwnI.empty _ _).ext (by (repeat (first | exact Ext.refl _ | assumption | refine Ext.alloc ?_ _ | refine Ext.drewN ?_ _ | refine Ext.drew ?_)))) (by (repeat (first | exact Ext.refl _ | assumption | refine Ext.alloc ?_ _ | refine Ext.drewN ?_ _ | refine Ext.drew ?_))) g1)
  obtain ⟨a1, c1, rfl, -⟩ := o1.shape
  have f1 := o1.fit
  have I1 := Lib.hid o1.intsE
  have hz1 := X1.out.size
  clear o1 g1
  try rw [HN.out]
  go_wp2
  go_loopw [3, 4] (fun v i wr => Hid (∃ k : Nat, k ≤ 41 ∧ i = .int .i64 k ∧ k ≤ (clL t.words k).length ∧ OwnLs wr w.heap.size (ek 3) 23 v (clL t.words k) ∧ Ext w wr)) (fun _ i _ => 41 - (intOf i).toNat)
  case atStart => exact Lib.hid ⟨0, Nat.zero_le _, rfl, Nat.zero_le _, by first | exact OwnLs.lit _ I1.out f1 hz1 | (have h := OwnLs.lit (ER := 23) w.heap.size I1.out f1 hz1; rw [HN.out] at h; exact h), X1.out.trans (by (repeat (first | exact Ext.refl _ | assumption | refine Ext.alloc ?_ _ | refine Ext.drewN ?_ _ | refine Ext.drew ?_)))⟩
  case round =>
    obtain ⟨k, hk41, rfl, hkl, ho, hx⟩ := hrel.out
    clear hrel
    have HKL := Lib.hid hkl
    obtain ⟨av, cv, rfl⟩ := ho.shape
    have HO := Lib.hid ho
    have HX := Lib.hid hx
    have hz := hx.size
    have hlen := clL_len HT.out hw1 k
    clear hkl ho hx
    by_cases hlt : k < (clL t.words k).length
    · obtain ⟨wo, hwo⟩ : ∃ wo, wo = wr := ⟨_, rfl⟩
      subst hwo
      have hxl : Go.Kt.Left t (rowI (clL t.words k) k) := clL_left HT.out k _ (by rw [rowI_getElem _ _ hlt]; exact List.getElem_mem hlt)
      have HX0 := Lib.hid hxl
      have HSucc : Hid (clL t.words (k + 1) = addM (clL t.words k) (rowI (clL t.words k) k) 12) := by unfold Hid; rw [clL_succ, if_pos hlt]
      have HND := Lib.hid (nodup_clL t.words k)
      have HCL : Hid (∀ y, y ∈ clL t.words k → Go.Kt.Left t y) := clL_left HT.out k
      have hpos := clL_pos t.words k
      have hk1 : k + 1 ≤ (clL t.words (k + 1)).length := by have := clL_le t.words k; omega
      have HK1 := Lib.hid hk1
      obtain ⟨q, hq, hqw, hql⟩ := hxl
      have hqb := left_bnd hw1 hql
      have HMv : Hid (∀ A C : Nat, C < 3 → movL (rowI (clL t.words k) k) (3 * A + C) = partsL A (16 + (C : Int)) q) := fun A C hC => by
        unfold movL
        rw [← hqw, treeW_words hq, show (3 * A + C) / 3 = A by omega, show (3 * A + C) % 3 = C by omega]
      have hqp := q.words_pos
      have CP : Hid (∀ (A C : Nat) w' ai ci, A < 4 → C < 3 → IntsE w' (ek 3) ai (rowI (clL t.words k) k) → (rowI (clL t.words k) k).length ≤ ci → Calls Tryz.prog 120 #[.slice ai (rowI (clL t.words k) k).length ci, .int .i64 A, .int .i64 (16 + (C : Int))] w' (RetLs (ek 3) 23 w' (partsL A (16 + (C : Int)) q))) := fun A C w' ai ci hA hC hi hci => by
        obtain ⟨b, off, rfl⟩ := hi.addr (by rw [← hqw]; exact hqp)
        rw [← hqw] at hi hci ⊢
        exact l4Parts_c A (16 + (C : Int)) hA (by omega) q hq b off ci w' hi hci (by omega) (by omega)
      have HRow0 : Hid (∀ m, rowI (addM (clL t.words k) (rowI (clL t.words k) k) m) k = rowI (clL t.words k) k ∧ k < (addM (clL t.words k) (rowI (clL t.words k) k) m).length) := fun m => by
        obtain ⟨r, hr⟩ := addM_pre (clL t.words k) (rowI (clL t.words k) k) m
        rw [hr]
        exact ⟨rowI_left hlt, by rw [List.length_append]; omega⟩
      clear hk1 hqp
      generalize hL : clL t.words k = L at *
      generalize hx0 : rowI L k = x0 at *
      generalize hnr : x0.length = nr at *
      have HNR := Lib.hid hnr
      clear hnr
      have hL41 : Hid (∀ m j, (addL (addM L x0 m) ((movL x0 m).take j)).length ≤ 41) := fun m j => way_len HT.out hw1 HND.out HCL.out HX0.out m j
      have hRow : Hid (∀ m y, y ∈ movL x0 m → 1 ≤ y.length ∧ y.length ≤ 1640) := fun m y hy => movL_row HT.out hw1 HX0.out hy
      have hRowA : Hid (∀ m j y, y ∈ addL (addM L x0 m) ((movL x0 m).take j) → y.length ≤ 1640) := fun m j y hy => by
        obtain ⟨q', h1, rfl, h2⟩ := addL_left (addM_left HT.out HCL.out HX0.out m) (fun y hy => movL_left' HT.out HX0.out (List.mem_of_mem_take hy)) y hy
        exact (left_bnd hw1 h2).2
      go_wp2
      go_loopw [3, 5] (fun v i wr => Hid (∃ A : Nat, A ≤ 4 ∧ i = .int .i64 A ∧ OwnLs wr w.heap.size (ek 3) 23 v (addM L x0 (3 * A)) ∧ Ext w wr)) (fun _ i _ => 4 - (intOf i).toNat)
      case atStart => exact Lib.hid ⟨0, by omega, rfl, HO.out, HX.out⟩
      case round =>
        obtain ⟨A, hA, rfl, ho2, hx2⟩ := hrel.out
        have HO2 := Lib.hid ho2
        have HX2 := Lib.hid hx2
        clear hrel ho2 hx2
        by_cases hA4 : A < 4
        · have hA4i : (A : Int) < 4 := by omega
          have hA4j : (A : Int) ≤ 3 := by omega
          obtain ⟨wo2, hwo2⟩ : ∃ wo, wo = wr := ⟨_, rfl⟩
          subst hwo2
          go_wp2
          go_loopw [3, 6] (fun v i wr => Hid (∃ C : Nat, C ≤ 3 ∧ i = .int .i64 (16 + (C : Int)) ∧ OwnLs wr w.heap.size (ek 3) 23 v (addM L x0 (3 * A + C)) ∧ Ext w wr)) (fun _ i _ => 19 - (intOf i).toNat)
          case atStart => exact Lib.hid ⟨0, by omega, rfl, HO2.out, HX2.out⟩
          case round =>
            obtain ⟨C, hC, rfl, ho3, hx3⟩ := hrel.out
            obtain ⟨a3, c3, rfl⟩ := ho3.shape
            have HO3 := Lib.hid ho3
            have HX3 := Lib.hid hx3
            clear hrel ho3 hx3
            by_cases hC3 : C < 3
            · have hC3i : 16 + (C : Int) ≤ 18 := by omega
              obtain ⟨wo3, hwo3⟩ : ∃ wo, wo = wr := ⟨_, rfl⟩
              subst hwo3
              have hAC : Hid (addL (addM L x0 (3 * A + C)) (movL x0 (3 * A + C)) = addM L x0 (3 * A + (C + 1))) := rfl
              have hlA := hL41.out (3 * A + C)
              have HLA := Lib.hid hlA
              have HRA := Lib.hid (hRowA.out (3 * A + C))
              have HR := Lib.hid (hRow.out (3 * A + C))
              have hPl : (partsL A (16 + (C : Int)) q).length ≤ 1640 := by have := partsL_len A (16 + (C : Int)) q; omega
              rw [HMv.out A C hC3] at hAC HLA HRA HR
              obtain ⟨hr0, hk0⟩ := HRow0.out (3 * A + C)
              obtain ⟨gS, rfl, -, zS, -, hrows⟩ := HO3.out.row (by omega)
              obtain ⟨ai, ci, r1, r2, r3⟩ := hrows k hk0
              rw [hr0] at r1 r2 r3
              rw [HNR.out] at r1 r2
              have CP1 := Lib.hid (CP.out A C wo3 ai ci hA4 hC3 r3 r2)
              have hkn : (k : Int) < ((addM L x0 (3 * A + C)).length : Int) := by omega
              clear hlA r2 r3 hrows hr0
              generalize partsL A (16 + (C : Int)) q = P at *
              generalize hM : addM L x0 (3 * A + C) = M at *
              clear hM
              go_wp2_with fail
              refine CP1.out.mono ?_
              rintro e wp ⟨vp, rfl, op, yp⟩
              obtain ⟨ap, cp, rfl⟩ := op.shape
              have OP := Lib.hid op
              have BP := Lib.hid (Bes.of HO3.out op)
              have OM := Lib.hid (HO3.out.ext yp)
              have XM := Lib.hid (HX3.out.trans yp)
              clear op yp CP1 r1
              generalize hm : P.length = m at *
              have HM := Lib.hid hm
              clear hm
              go_wp2
              go_loopw [3, 8] (fun v i wr => Hid (∃ j : Nat, j ≤ m ∧ i = .int .i64 j ∧ OwnLs wr w.heap.size (ek 3) 23 v (addL M (P.take j)) ∧ OwnLs wr wo3.heap.size (ek 3) 23 (.slice ap m cp) P ∧ Bes v (.slice ap m cp) ∧ Ext w wr)) (fun _ i _ => m - (intOf i).toNat)
              case atStart => exact Lib.hid ⟨0, by omega, rfl, OM.out, OP.out, BP.out, XM.out⟩
              case round =>
                obtain ⟨j, hj, rfl, ho4, hp4, hb4, hx4⟩ := hrel.out
                obtain ⟨a4, c4, rfl⟩ := ho4.shape
                have HO4 := Lib.hid ho4
                have HP4 := Lib.hid hp4
                have HB4 := Lib.hid hb4
                have HX4 := Lib.hid hx4
                have hz4 := hx4.size
                have hl4 := HLA.out j
                clear hrel ho4 hp4 hb4 hx4
                by_cases hjm : j < m
                · have hjP : j < P.length := by rw [HM.out]; exact hjm
                  obtain ⟨gP, rfl, -, zP, -, hrows⟩ := HP4.out.row (by omega)
                  obtain ⟨aj, cj, r1, r2, r3⟩ := hrows j hjP
                  have hmem : rowI P j ∈ P := by rw [rowI_getElem _ _ hjP]; exact List.getElem_mem hjP
                  have hlj := HR.out _ hmem
                  have hTk := addL_take (out := M) hjP
                  have CA := Lib.hid (l4Has_c a4 aj c4 cj (addL M (P.take j)) (rowI P j) wr HO4.out.rows r3.1 (by omega) (by omega) (fun x hx => by have := HRA.out j x hx; omega))
                  have R3 := Lib.hid r3
                  clear r3 hrows hmem
                  by_cases hin : rowI P j ∈ addL M (P.take j)
                  · rw [if_pos hin] at hTk
                    have HTk := Lib.hid hTk
                    rw [decide_eq_true hin] at CA
                    clear hin hTk
                    generalize addL M (P.take j) = Lj at *
                    generalize (rowI P j).length = lj at *
                    go_wp2_with fail
                    refine CA.out.mono ?_
                    rintro e wq ⟨rfl, yq⟩
                    have YQ := Lib.hid yq
                    clear yq CA
                    go_wp2
                    go_roundw
                    case rel => exact Lib.hid ⟨j + 1, by omega, by go_num, by rw [HTk.out]; exact HO4.out.ext YQ.out, HP4.out.ext YQ.out, HB4.out, HX4.out.trans YQ.out⟩
                    case measure => simp [intOf]; omega
                  · rw [if_neg hin] at hTk
                    have HTk := Lib.hid hTk
                    rw [decide_eq_false hin] at CA
                    clear hin hTk
                    generalize addL M (P.take j) = Lj at *
                    generalize hlr : (rowI P j).length = lj at *
                    have HLR := Lib.hid hlr
                    clear hlr
                    go_wp2_with fail
                    refine CA.out.mono ?_
                    rintro e wq ⟨rfl, yq⟩
                    have YQ := Lib.hid yq
                    have zq := yq.size
                    have r1q := yq.cell' r1 zP
                    clear yq CA
                    go_wp2_with (at_builtin; refine any_append_lsA (by rfl) _ _ _ rfl w.heap.size (ek 3) 23 neE Tryz.underlying24 infoInts _ Lj rfl (HO4.out.ext (YQ.out.trans (by (repeat (first | exact Ext.refl _ | assumption | refine Ext.alloc ?_ _ | refine Ext.drewN ?_ _ | refine Ext.drew ?_))))) wq.heap.size aj cj (rowI P j) rfl (by rw [HLR.out]; simp [go_sem]) (R3.out.ext (YQ.out.trans (by (repeat (first | exact Ext.refl _ | assumption | refine Ext.alloc ?_ _ | refine Ext.drewN ?_ _ | refine Ext.drew ?_))))) (by rw [HLR.out]; exact r2) (by omega) (by first | omega | (simp; omega)) ?_)
                    intro v5 w5 o5 g5 t5
                    have E5 := Lib.hid (OwnLs.grown (w0 := w) (HO4.out.ext (YQ.out.trans (by (repeat (first | exact Ext.refl _ | assumption | refine Ext.alloc ?_ _ | refine Ext.drewN ?_ _ | refine Ext.drew ?_))))) (HX4.out.trans (YQ.out.trans (by (repeat (first | exact Ext.refl _ | assumption | refine Ext.alloc ?_ _ | refine Ext.drewN ?_ _ | refine Ext.drew ?_))))) g5)
                    have P5 := Lib.hid (OwnLs.beside (HP4.out.ext (YQ.out.trans (by (repeat (first | exact Ext.refl _ | assumption | refine Ext.alloc ?_ _ | refine Ext.drewN ?_ _ | refine Ext.drew ?_))))) (HO4.out.ext (YQ.out.trans (by (repeat (first | exact Ext.refl _ | assumption | refine Ext.alloc ?_ _ | refine Ext.drewN ?_ _ | refine Ext.drew ?_))))) HB4.out g5 neE)
                    have B5 := Lib.hid (Bes.pushed HB4.out (HP4.out.ext (show Ext wr (wq.alloc (.cells #[.slice aj lj cj] 23)) from YQ.out.trans (by (repeat (first | exact Ext.refl _ | assumption | refine Ext.alloc ?_ _ | refine Ext.drewN ?_ _ | refine Ext.drew ?_))))) (by first | exact t5 | simpa using t5))
                    rw [← HTk.out] at o5
                    have O5 := Lib.hid o5
                    clear o5 g5 t5
                    go_wp2
                    go_roundw
                    case rel => exact Lib.hid ⟨j + 1, by omega, by go_num, O5.out, P5.out, B5.out, E5.out⟩
                    case measure => simp [intOf]; omega
                · have hM2 : Hid (addL M (P.take j) = addM L x0 (3 * A + (C + 1))) := by
                    unfold Hid
                    rw [show j = P.length by rw [HM.out]; omega, List.take_length]
                    exact hAC.out
                  have O4 : Hid (OwnLs wr w.heap.size (ek 3) 23 (.slice a4 (addL M (P.take j)).length c4) (addM L x0 (3 * A + (C + 1)))) := by
                    unfold Hid; rw [← hM2.out]; exact HO4.out
                  clear HO4
                  go_wp2
                  go_roundw
                  case rel => exact Lib.hid ⟨C + 1, by omega, by go_num, O4.out, HX4.out⟩
                  case measure => simp [intOf]; omega
            · obtain rfl : C = 3 := by omega
              go_wp2
              go_roundw
              case rel => exact Lib.hid ⟨A + 1, by omega, by go_num, HO3.out, HX3.out⟩
              case measure => simp [intOf]; omega
        · obtain rfl : A = 4 := by omega
          go_wp2
          go_roundw
          case rel => exact Lib.hid ⟨k + 1, by omega, by go_num, HK1.out, by rw [HSucc.out]; exact HO2.out, HX2.out⟩
          case measure => simp [intOf]; omega
    · have HA := Lib.hid (allL_of (e := t.words) hk41 (by omega))
      go_wp2
      go_ret
      exact ⟨_, rfl, by rw [HA.out]; exact HO.out, HX.out⟩
def partsF (e : List Int) : List (List Int) := if kvB e then allL e else []
theorem sAllParts_c (a : Option Addr) (c : Nat) (e : List Int) (w : World) (he : IntsAt w a e) (hl : e.length ≤ 4194304) :
    Calls Tryz.prog 118 #[.slice a e.length c] w (RetLs (ek 3) 23 w (partsF e)) := by
  have CK := Lib.hid (sKatValid_c a c e w he hl)
  cases hk : kvB e
  · have HF : Hid (partsF e = []) := by unfold Hid partsF; rw [hk]; rfl
    rw [hk] at CK
    clear he hk
    generalize e.length = n at *
    go_enter Tryz.func118, Tryz.ntmps118
    go_wp2_with fail
    refine CK.out.mono ?_
    rintro e w1 ⟨rfl, rfl⟩
    go_wp2
    go_ret
    exact ⟨_, rfl, by rw [HF.out]; exact OwnLs.empty _ _ _, by (repeat (first | exact Ext.refl _ | assumption | refine Ext.alloc ?_ _ | refine Ext.drewN ?_ _ | refine Ext.drew ?_))⟩
  · have HF : Hid (partsF e = allL e) := by unfold Hid partsF; rw [hk]; exact if_pos rfl
    have CA : Hid (Calls Tryz.prog 157 #[.slice a e.length c] w (RetLs (ek 3) 23 w (partsF e))) := by
      rw [HF.out]
      obtain ⟨t, hg, rfl⟩ := kvB_tree hk
      exact l4All_c a c t w hg (kvB_len hk).2 he
    rw [hk] at CK
    clear he hk HF
    generalize e.length = n at *
    go_enter Tryz.func118, Tryz.ntmps118
    go_wp2_with fail
    refine CK.out.mono ?_
    rintro e w1 ⟨rfl, rfl⟩
    go_wp2_with fail
    refine CA.out.mono ?_
    rintro e w1 ⟨v, rfl, o, x⟩
    go_wp2
    go_ret
    exact ⟨v, rfl, o, x⟩
end Go.Proofs.YtlaamecfknkmlaaGreat
namespace Go.Kt
set_option linter.unusedVariables false
theorem idxN_succ (L left : List (List Int)) (j : Nat) : idxN L left (j + 1) = idxN L left j + if rowI L j ∈ left then pow2 j else 0 := by
  unfold idxN
  rw [sumN_succ]
  by_cases h : rowI L j ∈ left
  · rw [if_pos h, if_pos (decide_eq_true h)]
  · rw [if_neg h, if_neg (by rw [decide_eq_false h]; decide)]
/-- Behind the append to the first list, stored. -/
theorem AutBox.store1 {b B ti tl a c n : Nat} {a7 : Option Addr} {c7 n2 c2 : Nat} {a2 : Option Addr} {E' : List Int} {N : List (List Int)} {w7 : World} (h : AutIn b B ti tl (.slice a7 E'.length c7) (.slice a2 N.length c2) E' N w7) (hc : ∃ u, w7.cell? ⟨b, 0, none⟩ = some u) (hb : b < B) : AutBox b B ti tl E' N (w7.setCell ⟨b, 0, none⟩ (.slice a7 E'.length c7)) := by
  obtain ⟨u, hu⟩ := hc
  exact ⟨a7, c7, a2, c2, by simp [go_sem, hu], h.store hb⟩
end Go.Kt
namespace Go.Proofs.YtlaamecfknkmlaaGreat
set_option linter.unusedVariables false
open Go.RowKit Go.Kt
set_option maxRecDepth 100000 in
set_option maxHeartbeats 8000000 in
theorem sAutoOf_c (a : Option Addr) (c : Nat) (e : List Int) (w : World) (he : IntsAt w a e) (hle : e.length ≤ 4194304) :
    Calls Tryz.prog 59 #[.slice a e.length c] w (RetAu w e) := by
  have CA : Hid (∀ w', Ext w w' → Calls Tryz.prog 118 #[.slice a e.length c] w' (RetLs (ek 3) 23 w' (partsF e))) := fun w' x => sAllParts_c a c e w' (he.ext x) hle
  cases hb : auB e
  · have HB := Lib.hid (fun (w' : World) (x : Ext w w') => RetAu.none (w := w) hb x)
    have hn : (partsF e).length = 0 ∨ 10 < (partsF e).length := by
      unfold partsF
      unfold auB at hb
      cases hk : kvB e
      · exact .inl rfl
      · rw [hk, Bool.true_and, decide_eq_false_iff_not] at hb
        rw [if_pos rfl]; exact .inr (by omega)
    clear he hb
    generalize partsF e = L at *
    generalize hnn : L.length = n at *
    have HNN := Lib.hid hnn
    clear hnn
    generalize RetAu w e = FINQ at *
    generalize e.length = nw at *
    go_enter Tryz.func59, Tryz.ntmps59
    go_wp2_with fail
    refine (CA.out _ (by (repeat (first | exact Ext.refl _ | assumption | refine Ext.alloc ?_ _ | refine Ext.drewN ?_ _ | refine Ext.drew ?_)))).mono ?_
    rintro e w1 ⟨vL, rfl, oL, x1⟩
    obtain ⟨aL, cL, rfl⟩ := oL.shape
    have q0 : w1.cell? ⟨w.heap.size, 0, none⟩ = some (.slice none 0 0) := x1.cell' (by simp [go_sem]) (by simp)
    have q1 : w1.cell? ⟨w.heap.size, 1, none⟩ = some (.slice none 0 0) := x1.cell' (by simp [go_sem]) (by simp)
    have q2 : w1.frozen? ⟨w.heap.size, 0, none⟩ = false := (x1.cells.2 _ _ (by simp)).trans (by simp [go_sem])
    have q3 : w1.frozen? ⟨w.heap.size, 1, none⟩ = false := (x1.cells.2 _ _ (by simp)).trans (by simp [go_sem])
    have hz1 := x1.size
    simp at hz1
    have hzw : w.heap.size < w1.heap.size := by omega
    have X1 := Lib.hid (Ext.trans (show Ext w _ by (repeat (first | exact Ext.refl _ | assumption | refine Ext.alloc ?_ _ | refine Ext.drewN ?_ _ | refine Ext.drew ?_))) x1)
    clear x1 oL CA
    rw [HNN.out]
    go_wp2
    go_loop [5] (fun i => Hid (i = .int .i64 0)) (fun _ => 0)
    case atStart => exact Lib.hid rfl
    case round =>
      obtain rfl := hrel.out
      clear hrel
      have X1' := X1.out
      rcases hn with rfl | hn
      · go_wp2
        refine bodyPost_ret (v := .agg #[.slice none 0 0, .slice none 0 0]) (by simp [results, Tryz.results59, go_sem, q0, q1, hzw]) rfl (HB.out _ (by (repeat (first | exact Ext.refl _ | assumption | refine Ext.alloc ?_ _ | refine Ext.drewN ?_ _ | refine Ext.drew ?_ | refine Ext.setCell ?_ (by simp; try omega) _))))
      · have h0 : (0 : Int) < (n : Int) := by omega
        have h1 : ¬ ((n : Int) ≤ 10) := by omega
        go_wp2
        refine bodyPost_ret (v := .agg #[.slice none 0 0, .slice none 0 0]) (by simp [results, Tryz.results59, go_sem, q0, q1, hzw]) rfl (HB.out _ (by (repeat (first | exact Ext.refl _ | assumption | refine Ext.alloc ?_ _ | refine Ext.drewN ?_ _ | refine Ext.drew ?_ | refine Ext.setCell ?_ (by simp; try omega) _))))
  have hk : kvB e = true := (auB_kv hb).1
  obtain ⟨t, hg, rfl⟩ := kvB_tree hk
  have hw40 := (kvB_len hk).2
  have hP : partsF t.words = allL t.words := by unfold partsF; rw [hk]; exact if_pos rfl
  rw [hP] at CA
  have hn : (allL t.words).length ≤ 10 := by
    unfold auB at hb
    rw [Bool.and_eq_true, decide_eq_true_eq] at hb
    exact hb.2
  have hpos : 1 ≤ (allL t.words).length := clL_pos t.words 41
  have HE : Hid (auE t.words = autE (allL t.words) (allL t.words).length) := by unfold Hid auE; rw [if_pos hb]
  have HN : Hid (auN t.words = autN (allL t.words) (allL t.words).length) := by unfold Hid auN; rw [if_pos hb]
  have HLf : Hid (∀ k, k < (allL t.words).length → Go.Kt.Left t (rowI (allL t.words) k)) := fun k h => allL_left hg (by rw [rowI_getElem _ _ h]; exact List.getElem_mem h)
  have HLr : Hid (∀ q, q ∈ allL t.words → q.length ≤ 1640) := fun q hq => by
    obtain ⟨q', h1, rfl, h2⟩ := allL_left hg hq
    exact (left_bnd hw40 h2).2
  have HMr : Hid (∀ k m q, k < (allL t.words).length → q ∈ movL (rowI (allL t.words) k) m → q.length ≤ 1640) := fun k m q h1 h2 => (movL_row hg hw40 (HLf.out k h1) h2).2
  have HFin : Hid (∀ (a1 : Option Addr) (c1 : Nat) (a2 : Option Addr) (c2 : Nat) (w' : World), OwnI w' w.heap.size 3 (.slice a1 (auE t.words).length c1) (auE t.words) → OwnLs w' w.heap.size (ek 3) 23 (.slice a2 (auN t.words).length c2) (auN t.words) → Ext w w' → RetAu w t.words (.returned (.agg #[.slice a1 (auE t.words).length c1, .slice a2 (auN t.words).length c2])) w') :=
    fun a1 c1 a2 c2 w' h1 h2 h3 => ⟨a1, c1, a2, c2, rfl, ⟨h1, h2⟩, h3⟩
  rw [HE.out, HN.out] at HFin
  clear he hk hb HE HN hP
  generalize allL t.words = L at *
  generalize hnn : L.length = n at *
  have HNN := Lib.hid hnn
  clear hnn
  generalize RetAu w t.words = FINQ at *
  have hw41 := hw40
  generalize hnw : t.words.length = nw at hle hw40 CA ⊢
  clear hnw
  go_enter Tryz.func59, Tryz.ntmps59
  go_wp2_with fail
  refine (CA.out _ (by (repeat (first | exact Ext.refl _ | assumption | refine Ext.alloc ?_ _ | refine Ext.drewN ?_ _ | refine Ext.drew ?_)))).mono ?_
  rintro e w1 ⟨vL, rfl, oL, x1⟩
  obtain ⟨aL, cL, rfl⟩ := oL.shape
  have hz1 := x1.size
  simp at hz1
  have q0 : w1.cell? ⟨w.heap.size, 0, none⟩ = some (.slice none 0 0) := x1.cell' (by simp [go_sem]) (by simp)
  have q1 : w1.cell? ⟨w.heap.size, 1, none⟩ = some (.slice none 0 0) := x1.cell' (by simp [go_sem]) (by simp)
  have q2 : w1.frozen? ⟨w.heap.size, 0, none⟩ = false := (x1.cells.2 _ _ (by simp)).trans (by simp [go_sem])
  have q3 : w1.frozen? ⟨w.heap.size, 1, none⟩ = false := (x1.cells.2 _ _ (by simp)).trans (by simp [go_sem])
  have qh : ∃ cs fz, w1.heap[w.heap.size]? = some (.cells cs 63 fz) := ⟨_, _, (x1.block _ (by simp)).trans (heap_alloc_new w _)⟩
  have QH := Lib.hid qh
  have Q0 := Lib.hid q0
  have Q1 := Lib.hid q1
  have Q2 := Lib.hid q2
  have Q3 := Lib.hid q3
  have X1 := Lib.hid (Ext.trans (show Ext w _ by (repeat (first | exact Ext.refl _ | assumption | refine Ext.alloc ?_ _ | refine Ext.drewN ?_ _ | refine Ext.drew ?_))) x1)
  rw [HNN.out] at oL
  have OL := Lib.hid oL
  clear q0 q1 q2 q3 qh x1 oL CA
  rw [HNN.out]
  go_wp2
  go_loopw [5] (fun i wr => Hid (∃ k : Nat, k ≤ n ∧ i = .int .i64 k ∧ AutBox w1.heap.size (w1.heap.size + 1) 3 23 (autE L k) (autN L k) wr ∧ Ext w1 wr)) (fun i _ => n - (intOf i).toNat)
  case atStart => exact Lib.hid ⟨0, Nat.zero_le _, rfl, ⟨none, 0, none, 0, by simp [go_sem, autE], ⟨by simp [go_sem, autN], by simp [go_sem], by simp [go_sem], by simp⟩, OwnI.nil _ _ _, OwnLs.nil _ _ _ _⟩, by (repeat (first | exact Ext.refl _ | assumption | refine Ext.alloc ?_ _ | refine Ext.drewN ?_ _ | refine Ext.drew ?_ | refine Ext.setCell ?_ (by simp; try omega) _))⟩
  case round =>
    obtain ⟨k, hk, rfl, hbx, hx⟩ := hrel.out
    have HBX := Lib.hid hbx
    have HX := Lib.hid hx
    have hz := hx.size
    clear hrel hbx hx
    by_cases hlt : k < n
    · obtain ⟨wo, hwo⟩ : ∃ wo, wo = wr := ⟨_, rfl⟩
      subst hwo
      have hkL : k < L.length := by rw [HNN.out]; exact hlt
      obtain ⟨gL, rfl, -, zL, -, hrows⟩ := OL.out.row (by omega)
      have HRows := Lib.hid hrows
      obtain ⟨ai, ci, r1, r2, r3⟩ := hrows k hkL
      have r1' := HX.out.cell' r1 zL
      obtain ⟨q, hq, hqw, hql⟩ := HLf.out k hlt
      have hqb := left_bnd hw41 hql
      have hMe : autE L (k + 1) = autE L k ++ [((q.ends : Nat) : Int)] := by rw [autE_succ hkL, ← hqw, treeW_words hq]
      have HME := Lib.hid hMe
      have HMN : Hid (autN L (k + 1) = autN L k ++ [rowA L (rowI L k) 12]) := autN_succ hkL
      have hqp := q.words_pos
      obtain ⟨bi, oi, rfl⟩ := r3.addr (by rw [← hqw]; exact hqp)
      have CE : Hid (∀ w', Ext w1 w' → Calls Tryz.prog 119 #[.slice (some ⟨bi, oi, none⟩) (rowI L k).length ci] w' fun e w'' => e = .returned (.int .i64 (q.ends : Nat)) ∧ Ext w' w'') := fun w' x => by
        rw [← hqw] at r3 r2 ⊢
        exact l4Ends_c q hq bi oi ci w' ((r3.ext x).1) r2 (by omega)
      have CP : Hid (∀ (m : Nat) w' (x y : Int), m < 12 → x = ((m / 3 : Nat) : Int) → y = 16 + ((m % 3 : Nat) : Int) → Ext w1 w' → Calls Tryz.prog 120 #[.slice (some ⟨bi, oi, none⟩) (rowI L k).length ci, .int .i64 x, .int .i64 y] w' (RetLs (ek 3) 23 w' (movL (rowI L k) m))) := fun m w' x y hm hx hy e => by
        subst hx; subst hy
        unfold movL
        rw [← hqw] at r3 r2 ⊢
        rw [treeW_words hq]
        exact l4Parts_c (m / 3) (16 + ((m % 3 : Nat) : Int)) (by omega) (by omega) q hq bi oi ci w' (r3.ext e) r2 (by omega) (by omega)
      have HMk : Hid (∀ m q, q ∈ movL (rowI L k) m → q.length ≤ 1640) := fun m q h => HMr.out k m q hlt h
      have HMl : Hid (∀ m, (movL (rowI L k) m).length ≤ 1640) := fun m => by
        unfold movL
        rw [← hqw, treeW_words hq]
        have := partsL_len (m / 3) (16 + ((m % 3 : Nat) : Int)) q
        omega
      have hqe := q.ends_lt
      have HR1 := Lib.hid r1
      clear r1 r2 r3 hrows hMe
      generalize hx0 : rowI L k = x0 at *
      generalize hnr : x0.length = nr at *
      have HNR := Lib.hid hnr
      have HX0 := Lib.hid hx0
      clear hnr hx0
      have hki : (k : Int) < (n : Int) := by omega
      have hn10 : (n : Int) ≤ 10 := by omega
      have zL' := Nat.lt_of_lt_of_le zL hz
      obtain ⟨a1, c1, a2, c2, b0o, bio⟩ := HBX.out
      have b0 := b0o
      obtain ⟨⟨b1, b2, b3, b4⟩, b5, b6⟩ := id bio
      have HB0 := Lib.hid b0
      have HBI := Lib.hid bio
      have hEl : (autE L k).length ≤ 10 := by rw [autE_len]; omega
      have hNl : (autN L k).length ≤ 10 := by rw [autN_len]; omega
      have hbE := Lib.hid b5
      clear bio b0o b5 b6 HBX
      generalize hE0 : autE L k = E0 at *
      generalize hN0 : autN L k = N0 at *
      generalize hne : E0.length = nE at *
      have HNE := Lib.hid hne
      generalize hnn0 : N0.length = nN at *
      have HNN0 := Lib.hid hnn0
      clear hne hnn0 hE0 hN0
      obtain ⟨E7, hE7⟩ : ∃ E7, E0 ++ [((q.ends : Nat) : Int)] = E7 := ⟨_, rfl⟩
      have HE7 := Lib.hid hE7
      clear hE7
      have XAll := HX
      go_wp2
      go_region_law
        ((first
          | (go_simp; go_at_call 119; refine (CE.out _ (XAll.out.trans (by (repeat (first | exact Ext.refl _ | assumption | refine Ext.alloc ?_ _ | refine Ext.drewN ?_ _ | refine Ext.drew ?_))))).mono ?_; rintro e wk ⟨rfl, yk⟩; have ek := Ext.trans (show Ext wo _ by (repeat (first | exact Ext.refl _ | assumption | refine Ext.alloc ?_ _ | refine Ext.drewN ?_ _ | refine Ext.drew ?_))) yk; have ck := ek.cell' b0 b4; have fk := (ek.cells.2 _ _ b4).trans b2; have zk := Nat.lt_of_lt_of_le b4 ek.size)
          | (refine step_append_intA rfl _ _ _ rfl (w1.heap.size + 1) 3 Tryz.underlying23 infoInt _ E0 rfl (hbE.out.ext (Ext.trans ek (by (repeat (first | exact Ext.refl _ | assumption | refine Ext.alloc ?_ _ | refine Ext.drewN ?_ _ | refine Ext.drew ?_))))) _ ((q.ends : Nat) : Int) rfl (by first | exact cell_new0 _ _ _ | simp) (by have := HNE.out; omega) (by have h1 := ek.size; simp; omega) ?_; intro v7 w7 o7 g7 t7; rw [HE7.out] at o7; have M7 := AutIn.push1 (HBI.out.ext (Ext.trans ek (by (repeat (first | exact Ext.refl _ | assumption | refine Ext.alloc ?_ _ | refine Ext.drewN ?_ _ | refine Ext.drew ?_))))) (Nat.lt_succ_self _) (by decide) g7 o7 t7; obtain ⟨a7, c7, rfl, -⟩ := o7.shape; obtain ⟨⟨m1, m2, m3, m4⟩, -, -⟩ := id M7; have m0 : w7.cell? ⟨w1.heap.size, 0, none⟩ = some (.slice a1 nE c1) := g7.cell ((Ext.trans ek (by (repeat (first | exact Ext.refl _ | assumption | refine Ext.alloc ?_ _ | refine Ext.drewN ?_ _ | refine Ext.drew ?_)))).cell' b0 b4) (fun e => by have := hbE.out.lt w1.heap.size e.symm; omega))))
      all_goals
        have X7 : Hid (Ext w1 w7) := Ext.row (XAll.out.trans (Ext.trans ek (by (repeat (first | exact Ext.refl _ | assumption | refine Ext.alloc ?_ _ | refine Ext.drewN ?_ _ | refine Ext.drew ?_))))) g7 (fun k hk => by have := hbE.out.lt k hk; omega)
        have BX7 : Hid (AutBox w1.heap.size (w1.heap.size + 1) 3 23 E7 N0 (w7.setCell ⟨w1.heap.size, 0, none⟩ (.slice a7 E7.length c7))) := AutBox.store1 (a := 0) (c := 0) (n := 0) (n2 := 0) (by rw [HNN0.out]; exact M7) ⟨_, m0⟩ (Nat.lt_succ_self _)
        have X8 : Hid (Ext w1 (w7.setCell ⟨w1.heap.size, 0, none⟩ (.slice a7 E7.length c7))) := X7.out.setCell (p := ⟨w1.heap.size, 0, none⟩) (Nat.le_refl _) (.slice a7 E7.length c7)
        clear M7 o7 g7 t7 m0 m1 m2 m3 m4 ek yk ck fk zk b0 b1 b2 b3 b4 HB0 HBI hbE
        generalize hw8 : w7.setCell ⟨w1.heap.size, 0, none⟩ (.slice a7 E7.length c7) = w8 at *
        clear hw8
        have hz8 := X8.out.size
        go_wp2
        go_loopw [6, 7] (fun v i wr => Hid (∃ m : Nat, m ≤ 12 ∧ i = .int .i64 m ∧ OwnI wr w8.heap.size 3 v (rowA L x0 m) ∧ Ext w8 wr)) (fun _ i _ => 12 - (intOf i).toNat)
        case atStart => exact Lib.hid ⟨0, by omega, rfl, by exact OwnI.empty _ _, by (repeat (first | exact Ext.refl _ | assumption | refine Ext.alloc ?_ _ | refine Ext.drewN ?_ _ | refine Ext.drew ?_))⟩
        case round =>
          obtain ⟨m, hm, rfl, ho, hx⟩ := hrel.out
          have HO := Lib.hid ho
          have HX4 := Lib.hid hx
          have hz4 := hx.size
          clear hrel ho hx
          obtain ⟨a6, c6, rfl, -⟩ := HO.out.shape
          have XR := Lib.hid (X8.out.trans HX4.out)
          by_cases hm12 : m < 12
          · have hm12i : (m : Int) < 12 := by omega
            obtain ⟨wo2, hwo2⟩ : ∃ wo, wo = wr := ⟨_, rfl⟩
            subst hwo2
            have hr3 : ((m : Int)).tmod 3 = ((m % 3 : Nat) : Int) := rfl
            have hq3 : ((m : Int)).tdiv 3 = ((m / 3 : Nat) : Int) := rfl
            have r1w := XR.out.cell' HR1.out zL
            have HRA : Hid (rowA L x0 (m + 1) = rowA L x0 m ++ [((idxN L (movL x0 m) n : Nat) : Int)]) := by unfold Hid; rw [rowA_succ, HNN.out]
            have HMk1 := Lib.hid (HMk.out m)
            have hPl := HMl.out m
            have hRl : (rowA L x0 m).length = m := rowA_length _ _ _
            have CP1 : Hid (∀ (x y : Int), x = ((m / 3 : Nat) : Int) → y = 16 + ((m % 3 : Nat) : Int) → Calls Tryz.prog 120 #[.slice (some ⟨bi, oi, none⟩) nr ci, .int .i64 x, .int .i64 y] wo2 (RetLs (ek 3) 23 wo2 (movL x0 m))) := fun x y hx hy => CP.out m _ x y hm12 hx hy XR.out
            rw [hRl] at HO ⊢
            generalize movL x0 m = P at *
            generalize rowA L x0 m = R0 at *
            go_wp2_with fail
            refine (CP1.out _ _ (by first | rfl | omega | (simp; omega)) (by first | rfl | omega | (simp; omega))).mono ?_
            rintro e wp ⟨vp, rfl, op, yp⟩
            obtain ⟨ap, cp, rfl⟩ := op.shape
            have OP := Lib.hid op
            have YP := Lib.hid yp
            have XP := Lib.hid (XR.out.trans yp)
            clear op yp CP1
            generalize hmp : P.length = mp at *
            have HMP := Lib.hid hmp
            clear hmp
            go_wp2
            go_loopw [8, 10] (fun o i wr => Hid (∃ j : Nat, j ≤ n ∧ i = .int .i64 j ∧ o = .int .i64 (idxN L P j : Nat) ∧ Ext wp wr)) (fun _ i _ => n - (intOf i).toNat)
            case atStart => exact Lib.hid ⟨0, by omega, rfl, rfl, by (repeat (first | exact Ext.refl _ | assumption | refine Ext.alloc ?_ _ | refine Ext.drewN ?_ _ | refine Ext.drew ?_))⟩
            case round =>
              obtain ⟨j, hj, rfl, rfl, hx5⟩ := hrel.out
              have HX5 := Lib.hid hx5
              clear hrel hx5
              by_cases hjn : j < n
              · have hjL : j < L.length := by rw [HNN.out]; exact hjn
                have hji : (j : Int) < (n : Int) := by omega
                obtain ⟨aj, cj, s1, s2, s3⟩ := HRows.out j hjL
                have s1' := (XP.out.trans HX5.out).cell' s1 zL
                have CH : Hid (Calls Tryz.prog 121 #[.slice ap mp cp, .slice aj (rowI L j).length cj] wr fun e w' => e = .returned (.bool (decide (rowI L j ∈ P))) ∧ Ext wr w') := by
                  have h1 := HLr.out (rowI L j) (rowI_mem2 hjL)
                  have h2 := HMP.out
                  have := l4Has_c ap aj cp cj P (rowI L j) wr (by have := (OP.out.ext HX5.out).rows; exact this) ((s3.ext (XP.out.trans HX5.out)).1) (by omega) (by omega) (fun y hy => by have := HMk1.out y hy; omega)
                  rw [h2] at this
                  exact this
                have hsu := idxN_succ L P j
                have hlo : idxN L P j < 1024 := by
                  have h1 := idxN_lt L P j
                  have h2 : 2 ^ j ≤ 2 ^ 10 := Nat.pow_le_pow_right (by decide) (by omega)
                  omega
                have hpc := pow2_cast j
                have hp8 : pow2 j ≤ 512 := pow2_le j 9 (by omega)
                have hwz : IntKind.i64.wrap ((pow2 j : Nat) : Int) = ((pow2 j : Nat) : Int) := IntWalk.i64_in _ (by omega)
                have hwa : IntKind.i64.wrap (((idxN L P j : Nat) : Int) + ((pow2 j : Nat) : Int)) = ((idxN L P j : Nat) : Int) + ((pow2 j : Nat) : Int) := IntWalk.i64_in _ (by omega)
                clear s1 s2 s3
                by_cases hin : rowI L j ∈ P
                · rw [if_pos hin] at hsu
                  have HSU := Lib.hid hsu
                  rw [decide_eq_true hin] at CH
                  clear hsu hin
                  generalize idxN L P j = S0 at *
                  generalize (rowI L j).length = lj at *
                  go_wp2_with (go_at_call 121; refine CH.out.mono ?_; rintro e w9 ⟨rfl, y9⟩; have Y9 := Lib.hid (HX5.out.trans y9); clear y9)
                  go_roundw
                  case rel => exact Lib.hid ⟨j + 1, by omega, by go_num, by rw [HSU.out]; simp, Y9.out⟩
                  case measure => simp [intOf]; omega
                · rw [if_neg hin] at hsu
                  have HSU := Lib.hid hsu
                  rw [decide_eq_false hin] at CH
                  clear hsu hin
                  generalize idxN L P j = S0 at *
                  generalize (rowI L j).length = lj at *
                  go_wp2_with (go_at_call 121; refine CH.out.mono ?_; rintro e w9 ⟨rfl, y9⟩; have Y9 := Lib.hid (HX5.out.trans y9); clear y9)
                  go_roundw
                  case rel => exact Lib.hid ⟨j + 1, by omega, by go_num, by rw [HSU.out]; simp, Y9.out⟩
                  case measure => simp [intOf]; omega
              · obtain rfl : j = n := by omega
                have XPW := Lib.hid (YP.out.trans HX5.out)
                have XW := Lib.hid (HX4.out.trans XPW.out)
                have HO9 := Lib.hid (HO.out.ext XPW.out)
                have hzw9 := XW.out.size
                go_wp2_with (at_builtin; refine any_append_ints (by rfl) _ _ _ rfl (w8.heap.size) 3 Tryz.underlying23 infoInt _ (R0) rfl (HO9.out.ext (by (repeat (first | exact Ext.refl _ | assumption | refine Ext.alloc ?_ _ | refine Ext.drewN ?_ _ | refine Ext.drew ?_)))) _ _ ([((idxN L P j : Nat) : Int)]) rfl ((OwnI.lit1 _ _ _ _ (Nat.le_refl _)).ints) (by first | omega | (simp; omega)) (by first | omega | (simp; done) | (simp; omega)) ?_)
                intro v6 w6 o6 g6
                have X6 := Lib.hid (OwnI.grown (w0 := w8) (HO9.out.ext (by (repeat (first | exact Ext.refl _ | assumption | refine Ext.alloc ?_ _ | refine Ext.drewN ?_ _ | refine Ext.drew ?_)))) (XW.out.trans (by (repeat (first | exact Ext.refl _ | assumption | refine Ext.alloc ?_ _ | refine Ext.drewN ?_ _ | refine Ext.drew ?_)))) g6)
                rw [← HRA.out] at o6
                have O6 := Lib.hid o6
                clear o6 g6
                go_wp2
                go_roundw
                case rel => exact Lib.hid ⟨m + 1, by omega, by go_num, O6.out, X6.out⟩
                case measure => simp [intOf]; omega
          · obtain rfl : m = 12 := by omega
            have h12 : Hid ((rowA L x0 12).length = 12) := rowA_length _ _ _
            have hf6 := HO.out.fit
            rw [h12.out] at hf6 ⊢
            obtain ⟨a1', c1', a2', c2', b0o, bio⟩ := BX7.out
            rw [HNN0.out] at bio
            have hl1 := bio.2.1.lt
            have hbo := bio.1.2.2.2
            have b0 := HX4.out.cell' b0o bio.1.2.2.2
            have bi := bio.ext HX4.out
            have HI0 : Hid (IntsE wr ⟨3, XB w1.heap.size (.slice a1' E7.length c1')⟩ a6 (rowA L x0 12)) := by
              refine (OwnI.intsX HO.out) fun g hg _ hx => ?_
              rcases hx with hx | hx
              · omega
              · have := hl1 g hx; omega
            obtain ⟨⟨b1, b2, b3, b4⟩, b5, b6⟩ := id bi
            have HBI := Lib.hid bi
            have XAll2 := Lib.hid (X8.out.trans HX4.out)
            have hzA := XAll2.out.size
            have hNl2 : N0.length ≤ 10 := by rw [HNN0.out]; exact hNl
            clear bio b0o bi b5 b6 hl1
            generalize rowA L x0 12 = R12 at *
            generalize hne7 : E7.length = nE7 at *
            have HNE7 := Lib.hid hne7
            clear hne7
            go_wp2_with (at_builtin; refine any_append_lsA (by rfl) _ _ _ rfl (w1.heap.size + 1) ⟨3, XB w1.heap.size (.slice a1' nE7 c1')⟩ 23 neE Tryz.underlying24 infoInts (.slice a2' nN c2') N0 rfl (HBI.out.2.2.ext (by (repeat (first | exact Ext.refl _ | assumption | refine Ext.alloc ?_ _ | refine Ext.drewN ?_ _ | refine Ext.drew ?_)))) _ a6 c6 R12 rfl (by rw [h12.out]; simp [go_sem]) (HI0.out.ext (by (repeat (first | exact Ext.refl _ | assumption | refine Ext.alloc ?_ _ | refine Ext.drewN ?_ _ | refine Ext.drew ?_)))) (by rw [h12.out]; exact hf6) (by have := HNN0.out; omega) (by simp; omega) ?_)
            intro v9 w9 o9 g9 t9
            have P9 := AutIn.push2 (HBI.out.ext (by (repeat (first | exact Ext.refl _ | assumption | refine Ext.alloc ?_ _ | refine Ext.drewN ?_ _ | refine Ext.drew ?_)))) (u1 := .slice a1' nE7 c1') (by simp [go_sem, b0, b4]) (Nat.lt_succ_self _) (by decide) g9 o9
            have X9 := Lib.hid (Ext.row (show Ext w1 _ from Ext.trans XAll2.out (by (repeat (first | exact Ext.refl _ | assumption | refine Ext.alloc ?_ _ | refine Ext.drewN ?_ _ | refine Ext.drew ?_)))) g9 (fun k hk => by have := HBI.out.2.2.lt k hk; omega))
            obtain ⟨a9, c9, rfl⟩ := o9.shape
            obtain ⟨⟨n0, n1, n2, n3, n4⟩, n5, n6⟩ := P9
            have HD := Lib.hid (AutBox.done (a := 0) (c := 0) (by rw [HNE7.out]; exact n0) (Nat.lt_succ_self _) ⟨n2, n3, n4⟩ ⟨_, n1⟩ (by rw [HNE7.out]; exact n5) (by rw [HNE7.out]; exact n6))
            rw [List.length_append] at HD
            clear n5 n6 o9
            go_wp2
            go_roundw
            case rel => exact Lib.hid ⟨k + 1, by omega, by go_num, by rw [HME.out, HE7.out, HMN.out]; exact HD.out, X9.out.setCell (p := ⟨w1.heap.size, 1, none⟩) (Nat.le_refl _) _⟩
            case measure => simp [intOf]; omega
    · obtain rfl : k = n := by omega
      obtain ⟨a1, c1, a2, c2, e0, ⟨e1, e2, e3, e4⟩, e5, e6⟩ := HBX.out
      have p0 := HX.out.cell' Q0.out (by omega)
      have p1 := HX.out.cell' Q1.out (by omega)
      have p2 := (HX.out.cells.2 w.heap.size 0 (by omega)).trans Q2.out
      have p3 := (HX.out.cells.2 w.heap.size 1 (by omega)).trans Q3.out
      have hzw : w.heap.size < wr.heap.size := by omega
      have hne : w.heap.size ≠ w1.heap.size := by omega
      have X2 := Lib.hid (X1.out.trans HX.out)
      have HE5 := Lib.hid e5
      have HE6 := Lib.hid e6
      clear e5 e6
      have HK : Hid (∀ u1 u2 : Value, OwnI ((wr.setCell ⟨w.heap.size, 0, none⟩ u1).setCell ⟨w.heap.size, 1, none⟩ u2) w.heap.size 3 (.slice a1 (autE L k).length c1) (autE L k) ∧ OwnLs ((wr.setCell ⟨w.heap.size, 0, none⟩ u1).setCell ⟨w.heap.size, 1, none⟩ u2) w.heap.size (ek 3) 23 (.slice a2 (autN L k).length c2) (autN L k)) := fun u1 u2 => by
        have g1 := grown_put1 wr w.heap.size 0 u1
        have g2 := grown_put1 (wr.setCell ⟨w.heap.size, 0, none⟩ u1) w.heap.size 1 u2
        have hh : ∃ cs fz, wr.heap[w.heap.size]? = some (.cells cs 63 fz) := by
          obtain ⟨cs, fz, h⟩ := QH.out
          exact ⟨cs, fz, (HX.out.block _ (by omega)).trans h⟩
        have hh2 : ∃ cs fz, (wr.setCell ⟨w.heap.size, 0, none⟩ u1).heap[w.heap.size]? = some (.cells cs 63 fz) := by
          obtain ⟨cs, fz, h⟩ := hh
          exact ⟨_, fz, by simp only [World.setCell, Array.getElem?_modify]; rw [h]; rfl⟩
        have n1 : (Value.slice a1 (autE L k).length c1).ownBlock = none ∨ (Value.slice a1 (autE L k).length c1).ownBlock ≠ some w.heap.size := by
          cases h : (Value.slice a1 (autE L k).length c1).ownBlock with
          | none => exact .inl rfl
          | some x => refine .inr fun e => ?_; have := HE5.out.lt x h; have := Option.some.inj e; omega
        have n2 : (Value.slice a2 (autN L k).length c2).ownBlock = none ∨ (Value.slice a2 (autN L k).length c2).ownBlock ≠ some w.heap.size := by
          cases h : (Value.slice a2 (autN L k).length c2).ownBlock with
          | none => exact .inl rfl
          | some x => refine .inr fun e => ?_; have := HE6.out.lt x h; have := Option.some.inj e; omega
        obtain ⟨vs, k1, k2⟩ := HE6.out
        have hty : (3 : Nat) ≠ 63 := by decide
        have L2 : OwnLs ((wr.setCell ⟨w.heap.size, 0, none⟩ u1).setCell ⟨w.heap.size, 1, none⟩ u2) (w1.heap.size + 1) ⟨3, XB w1.heap.size (.slice a1 (autE L k).length c1)⟩ 23 (.slice a2 (autN L k).length c2) (autN L k) :=
          ⟨vs, World.ownsRow.kept (World.ownsRow.kept k1 g1 n2) g2 n2, (k2.kept g1 (fun x hx => by rw [← Option.some.inj hx]; exact hh) hty).kept g2 (fun x hx => by rw [← Option.some.inj hx]; exact hh2) hty⟩
        exact ⟨((HE5.out.kept g1 n1).kept g2 n1).mono (by omega), (L2.wk (fun _ _ h => h.elim)).mono (by omega)⟩
      clear HE5 HE6 HBX
      generalize hlE : (autE L k).length = nE at *
      generalize hlN : (autN L k).length = nN at *
      go_wp2
      refine bodyPost_ret (v := .agg #[.slice a1 nE c1, .slice a2 nN c2]) (by simp [results, Tryz.results59, go_sem, p0, p1]) rfl ?_
      exact HFin.out a1 c1 a2 c2 _ (HK.out _ _).1 (HK.out _ _).2 ((X2.out.setCell (p := ⟨w.heap.size, 0, none⟩) (Nat.le_refl _) _).setCell (p := ⟨w.heap.size, 1, none⟩) (Nat.le_refl _) _)
end Go.Proofs.YtlaamecfknkmlaaGreat
