/- Merged texts: contracts and plain lemmas (Ax). -/
import Derived.Test.YtlaamecfknkmlaaGreatGtAw
import Derived.Test.YtlaamecfknkmlaaGreatGtYr
import Derived.Test.YtlaamecfknkmlaaGreatGt10
import Derived.Deep.RegionHeld3
import Derived.Deep.AppendLies
namespace Go.Kt
set_option linter.unusedVariables false
open Go.Proofs.YtlaamecfknkmlaaGreat
/-- The sets of a part, the row, and the parts that are gone through. -/
def RowP (w2 : World) (br Bp ti tl : Nat) (X : Nat → Prop) (vp : Value) (P : List (List Int)) (R : List Int) (w : World) : Prop :=
  OwnI w w2.heap.size ti (.slice (some ⟨br, 0, none⟩) 12 12) R ∧ OwnLs w Bp ⟨ti, X⟩ tl vp P ∧ Ext w2 w
theorem RowP.step {w2 w w' : World} {br Bp ti tl m : Nat} {X : Nat → Prop} {vp : Value} {P : List (List Int)} {R : List Int} (h : RowP w2 br Bp ti tl X vp P R w) (hl : R.length = 12) (hX : X br) (hb : w2.heap.size ≤ br) (hbp : br < Bp) (e : Ext w w') (u : Int) :
    RowP w2 br Bp ti tl X vp P (R.set m u) (w'.setCell ⟨br, m, none⟩ (.int .i64 u)) := by
  obtain ⟨h1, h2, h3⟩ := h
  have o := h1.ext e
  have g := OwnI.setg o hl m u
  refine ⟨OwnI.setn o hl m u, (h2.ext e).keptX g (fun k hk => by rw [← Option.some.inj hk]; exact hX) ?_, (h3.trans e).setCell hb _⟩
  cases hv : vp.ownBlock with
  | none => exact .inl rfl
  | some k => refine .inr fun e => ?_; have := h2.lt k hv; have := Option.some.inj e; omega
end Go.Kt
namespace Go.Proofs.YtlaamecfknkmlaaGreat
set_option linter.unusedVariables false
open Go.RowKit Go.Kt
set_option maxRecDepth 100000 in
set_option maxHeartbeats 8000000 in
theorem autoOf_c (a : Option Addr) (c : Nat) (e : List Int) (w : World) (he : IntsAt w a e) (hle : e.length ≤ 4194304) :
    Calls Tryz.prog 115 #[.slice a e.length c] w (RetAu w e) := by
  have CK : Hid (∀ w', Ext w w' → Calls Tryz.prog 67 #[.slice a e.length c] w' fun r w'' => r = .returned (.bool (kvB e)) ∧ w' = w'') := fun w' x => iKatValid_c a c e w' (he.ext x) hle
  cases hk : kvB e
  · have hb : auB e = false := by unfold auB; rw [hk]; rfl
    have HB := Lib.hid (fun (w' : World) (x : Ext w w') => RetAu.none (w := w) hb x)
    rw [hk] at CK
    clear he hb
    go_enter Tryz.func115, Tryz.ntmps115
    go_wp2_with (go_at_call 67; refine (CK.out _ (by (repeat (first | exact Ext.refl _ | assumption | refine Ext.alloc ?_ _ | refine Ext.drewN ?_ _ | refine Ext.drew ?_)))).mono ?_; rintro e w1 ⟨rfl, rfl⟩)
    refine bodyPost_ret (v := .agg #[.slice none 0 0, .slice none 0 0]) (by simp [results, Tryz.results115, go_sem]) rfl (HB.out _ (by (repeat (first | exact Ext.refl _ | assumption | refine Ext.alloc ?_ _ | refine Ext.drewN ?_ _ | refine Ext.drew ?_ | refine Ext.setCell ?_ (by simp; try omega) _))))
  obtain ⟨t, hg, rfl⟩ := kvB_tree hk
  have hw40 := (kvB_len hk).2
  have CA : Hid (∀ w', Ext w w' → Calls Tryz.prog 155 #[.slice a t.words.length c] w' (RetLs (ek 3) 23 w' (allL t.words))) := fun w' x => allParts_c a c t w' hg hw40 (he.ext x)
  rw [hk] at CK
  have hL41 : (allL t.words).length ≤ 41 := clL_len hg hw40 41
  have hpos : 1 ≤ (allL t.words).length := clL_pos t.words 41
  by_cases hn : (allL t.words).length ≤ 10
  · have hb : auB t.words = true := by unfold auB; rw [hk]; simp [hn]
    have HE : Hid (auE t.words = autE (allL t.words) (allL t.words).length) := by unfold Hid auE; rw [if_pos hb]
    have HN : Hid (auN t.words = autN (allL t.words) (allL t.words).length) := by unfold Hid auN; rw [if_pos hb]
    have HND := Lib.hid (nodup_allL t.words)
    have HLf : Hid (∀ k, k < (allL t.words).length → Go.Kt.Left t (rowI (allL t.words) k)) := fun k h => allL_left hg (by rw [rowI_getElem _ _ h]; exact List.getElem_mem h)
    have HCl : Hid (∀ k m q, k < (allL t.words).length → m < 12 → q ∈ movL (rowI (allL t.words) k) m → q ∈ allL t.words) := fun k m q h1 h2 h3 => allL_closed hg hw40 (by rw [rowI_getElem _ _ h1]; exact List.getElem_mem h1) h2 h3
    have HLr : Hid (∀ q, q ∈ allL t.words → q.length ≤ 1640) := fun q hq => by
      obtain ⟨q', h1, rfl, h2⟩ := allL_left hg hq
      exact (left_bnd hw40 h2).2
    have HT := Lib.hid hg
    have HFin : Hid (∀ (a1 : Option Addr) (c1 : Nat) (a2 : Option Addr) (c2 : Nat) (w' : World), OwnI w' w.heap.size 3 (.slice a1 (auE t.words).length c1) (auE t.words) → OwnLs w' w.heap.size (ek 3) 23 (.slice a2 (auN t.words).length c2) (auN t.words) → Ext w w' → RetAu w t.words (.returned (.agg #[.slice a1 (auE t.words).length c1, .slice a2 (auN t.words).length c2])) w') :=
      fun a1 c1 a2 c2 w' h1 h2 h3 => ⟨a1, c1, a2, c2, rfl, ⟨h1, h2⟩, h3⟩
    rw [HE.out, HN.out] at HFin
    clear he hk hb HE HN
    generalize allL t.words = L at *
    generalize hnn : L.length = n at *
    have HNN := Lib.hid hnn
    clear hnn
    generalize RetAu w t.words = FINQ at *
    have hw41 := hw40
    generalize hnw : t.words.length = nw at hw40 CK CA ⊢
    clear hnw
    obtain ⟨i0, hi, hz0, hz1, hz2⟩ := info_parts infoInt
    have Hi := Lib.hid hi
    have Hz0 := Lib.hid hz0
    have Hz1 := Lib.hid hz1
    have Hz2 := Lib.hid hz2
    clear hi hz0 hz1 hz2
    go_enter Tryz.func115, Tryz.ntmps115
    go_wp2_with (go_at_call 67; refine (CK.out _ (by (repeat (first | exact Ext.refl _ | assumption | refine Ext.alloc ?_ _ | refine Ext.drewN ?_ _ | refine Ext.drew ?_)))).mono ?_; rintro e w1 ⟨rfl, rfl⟩)
    refine (CA.out _ (by (repeat (first | exact Ext.refl _ | assumption | refine Ext.alloc ?_ _ | refine Ext.drewN ?_ _ | refine Ext.drew ?_)))).mono ?_
    rintro e w1 ⟨vL, rfl, oL, x1⟩
    obtain ⟨aL, cL, rfl⟩ := oL.shape
    have hz1 := x1.size
    simp at hz1
    have q0 : w1.cell? ⟨w.heap.size, 0, none⟩ = some (.slice none 0 0) := x1.cell' (by simp [go_sem]) (by simp)
    have q1 : w1.cell? ⟨w.heap.size, 1, none⟩ = some (.slice none 0 0) := x1.cell' (by simp [go_sem]) (by simp)
    have q2 : w1.frozen? ⟨w.heap.size, 0, none⟩ = false := (x1.cells.2 _ _ (by simp)).trans (by simp [go_sem])
    have q3 : w1.frozen? ⟨w.heap.size, 1, none⟩ = false := (x1.cells.2 _ _ (by simp)).trans (by simp [go_sem])
    have qh : ∃ cs fz, w1.heap[w.heap.size]? = some (.cells cs 63 fz) := ⟨_, _, (x1.block _ (by simp)).trans (heap_alloc_new w _)⟩
    have QH := Lib.hid qh
    have Q0 := Lib.hid q0
    have Q1 := Lib.hid q1
    have Q2 := Lib.hid q2
    have Q3 := Lib.hid q3
    have X1 := Lib.hid (Ext.trans (show Ext w _ by (repeat (first | exact Ext.refl _ | assumption | refine Ext.alloc ?_ _ | refine Ext.drewN ?_ _ | refine Ext.drew ?_))) x1)
    rw [HNN.out] at oL
    have OL := Lib.hid oL
    clear q0 q1 q2 q3 qh x1 oL CK CA
    rw [HNN.out]
    go_wp2
    go_loopw [25] (fun i wr => Hid (∃ k : Nat, k ≤ n ∧ i = .int .i64 k ∧ AutBox w1.heap.size (w1.heap.size + 1) 3 23 (autE L k) (autN L k) wr ∧ Ext w1 wr)) (fun i _ => n - (intOf i).toNat)
    case atStart => exact Lib.hid ⟨0, Nat.zero_le _, rfl, ⟨none, 0, none, 0, by simp [go_sem, autE], ⟨by simp [go_sem, autN], by simp [go_sem], by simp [go_sem], by simp⟩, OwnI.nil _ _ _, OwnLs.nil _ _ _ _⟩, by (repeat (first | exact Ext.refl _ | assumption | refine Ext.alloc ?_ _ | refine Ext.drewN ?_ _ | refine Ext.drew ?_))⟩
    case round =>
      obtain ⟨k, hk, rfl, hbx, hx⟩ := hrel.out
      have HBX := Lib.hid hbx
      have HX := Lib.hid hx
      have hz := hx.size
      clear hrel hbx hx
      by_cases hlt : k < n
      · obtain ⟨wo, hwo⟩ : ∃ wo, wo = wr := ⟨_, rfl⟩
        subst hwo
        have hkL : k < L.length := by rw [HNN.out]; exact hlt
        obtain ⟨gL, rfl, -, zL, -, hrows⟩ := OL.out.row (by omega)
        obtain ⟨ai, ci, r1, r2, r3⟩ := hrows k hkL
        have r1' := HX.out.cell' r1 zL
        obtain ⟨q, hq, hqw, hql⟩ := HLf.out k hlt
        have hqb := left_bnd hw41 hql
        have hMe : autE L (k + 1) = autE L k ++ [((q.ends : Nat) : Int)] := by rw [autE_succ hkL, ← hqw, treeW_words hq]
        have HME := Lib.hid hMe
        have HMN : Hid (autN L (k + 1) = autN L k ++ [rowA L (rowI L k) 12]) := autN_succ hkL
        have HMv : Hid (∀ A C : Nat, C < 3 → movL (rowI L k) (3 * A + C) = partsL A (16 + (C : Int)) q) := fun A C hC => by
          unfold movL
          rw [← hqw, treeW_words hq, show (3 * A + C) / 3 = A by omega, show (3 * A + C) % 3 = C by omega]
        have HNx : Hid (∀ m, m < 12 → rowF L (rowI L k) m (movL (rowI L k) m).length = rowF L (rowI L k) (m + 1) 0) := fun m hm => rowF_next HND.out (fun q' hq' => HCl.out k m q' hlt hm hq')
        have HIn : Hid (∀ m q', m < 12 → q' ∈ movL (rowI L k) m → q' ∈ L) := fun m q' h1 h2 => HCl.out k m q' hlt h1 h2
        have CB : Hid (∀ w', Ext w1 w' → Calls Tryz.prog 69 #[.slice ai (rowI L k).length ci] w' (RetT w' q)) := fun w' x => by
          rw [← hqw] at r3 ⊢
          exact buildL_c ai ci q.words q w' ((r3.ext x).1) hq rfl (KvL.words hq (by omega))
        have CE : Hid (∀ w', Ext w1 w' → Calls Tryz.prog 75 #[.slice ai (rowI L k).length ci] w' fun e w'' => e = .returned (.int .i64 (q.ends : Nat)) ∧ Ext w' w'') := fun w' x => by
          rw [← hqw] at r3 ⊢
          exact ends_c ai ci q.words q w' ((r3.ext x).1) hq rfl (KvL.words hq (by omega))
        have CP : Hid (∀ (A C : Nat) w' g', A < 4 → C < 3 → TreeAt w' (fun _ => False) q g' → Calls Tryz.prog 70 #[.pointer (some ⟨g', 0, none⟩), .int .i64 A, .int .i64 (16 + (C : Int))] w' (RetLs ⟨3, fun k => k < w'.heap.size⟩ 23 w' (partsL A (16 + (C : Int)) q))) := fun A C w' g' hA hC x => parts_c A (16 + (C : Int)) (by omega) (by omega) (by omega) q hq (by omega) (by omega) g' w' x (fun k => k < w'.heap.size) (fun _ h => h)
        have CPt : Hid (∀ w' aq cq y, Ext w1 w' → IntsAt w' aq y → y ∈ L → Calls Tryz.prog 156 #[.slice (some ⟨gL, 0, none⟩) n cL, .slice aq y.length cq] w' fun e w'' => e = .returned (.int .i64 (plcN L y : Nat)) ∧ Ext w' w'') := fun w' aq cq y x hy hm => by
          have h1 := HLr.out y hm
          have := partAt_c (some ⟨gL, 0, none⟩) aq cL cq L y w' (((OL.out.ext x).rows)) hy (by rw [HNN.out]; omega) (by omega) (fun z hz => by have := HLr.out z hz; omega)
          rw [plc_findR, if_pos hm, HNN.out] at this
          exact this
        have hqe := q.ends_lt
        have HQl : Hid (∀ A (C : Nat), (partsL A (16 + (C : Int)) q).length ≤ 1640) := fun A C => by have := partsL_len A (16 + (C : Int)) q; omega
        clear r1 r2 r3 hrows hMe
        generalize hx0 : rowI L k = x0 at *
        generalize hnr : x0.length = nr at *
        have HNR := Lib.hid hnr
        clear hnr
        have hki : (k : Int) < (n : Int) := by omega
        go_wp2_with fail
        refine (CB.out _ HX.out).mono ?_
        rintro e w2 ⟨gq, rfl, tq, y2⟩
        have TQ := Lib.hid tq
        have Y2 := Lib.hid y2
        have X2 := Lib.hid (HX.out.trans y2)
        have hz2 := y2.size
        clear tq y2 CB
        go_wp2_with (at_make; refine wpList_make_full _ rfl _ _ _ rfl w2.heap.size 3 i0 (.int .i64 0) 1 Tryz.underlying23 Hi.out Hz0.out Hz1.out _ _ _ _ 12 rfl rfl rfl rfl (by rw [Hz2.out]; omega) (by unfold maxLen; omega) (by simp) ?_)
        intro w3 ho3 hg3
        have HX3 := Lib.hid (Ext.of_grown hg3)
        have ho3' := own_made ho3
        rw [← rowF_zero L x0] at ho3'
        have HO3 := Lib.hid ho3'
        clear ho3 hg3 ho3'
        go_wp2
        go_loopw [32] (fun i wr => Hid (∃ A : Nat, A ≤ 4 ∧ i = .int .i64 A ∧ OwnI wr w2.heap.size 3 (.slice (some ⟨w2.heap.size, 0, none⟩) 12 12) (rowF L x0 (3 * A) 0) ∧ Ext w2 wr)) (fun i _ => 4 - (intOf i).toNat)
        case atStart => exact Lib.hid ⟨0, by omega, rfl, HO3.out, HX3.out⟩
        case round =>
          obtain ⟨A, hA, rfl, ho, hx⟩ := hrel.out
          have HO := Lib.hid ho
          have HX4 := Lib.hid hx
          clear hrel ho hx
          by_cases hA4 : A < 4
          · have hA4i : (A : Int) < 4 := by omega
            obtain ⟨wo2, hwo2⟩ : ∃ wo, wo = wr := ⟨_, rfl⟩
            subst hwo2
            go_wp2
            go_loopw [10] (fun i wr => Hid (∃ C : Nat, C ≤ 3 ∧ i = .int .i64 (16 + (C : Int)) ∧ OwnI wr w2.heap.size 3 (.slice (some ⟨w2.heap.size, 0, none⟩) 12 12) (rowF L x0 (3 * A + C) 0) ∧ Ext w2 wr)) (fun i _ => 19 - (intOf i).toNat)
            case atStart => exact Lib.hid ⟨0, by omega, rfl, HO.out, HX4.out⟩
            case round =>
              obtain ⟨C, hC, rfl, ho, hx⟩ := hrel.out
              have HO5 := Lib.hid ho
              have HX5 := Lib.hid hx
              have hz5 := hx.size
              have hbr := (ho.lt w2.heap.size rfl).2
              clear hrel ho hx
              by_cases hC3 : C < 3
              · have hC3i : 16 + (C : Int) ≤ 18 := by omega
                obtain ⟨wo3, hwo3⟩ : ∃ wo, wo = wr := ⟨_, rfl⟩
                subst hwo3
                obtain ⟨m, hm⟩ : ∃ m, m = 3 * A + C := ⟨_, rfl⟩
                have hm12 : m < 12 := by omega
                have HNx1 := Lib.hid (HNx.out m hm12)
                have HIn1 := Lib.hid (fun q' => HIn.out m q' hm12)
                have HMv1 : Hid (movL x0 m = partsL A (16 + (C : Int)) q) := by unfold Hid; rw [hm]; exact HMv.out A C hC3
                have hPl := HQl.out A C
                have CP1 := Lib.hid (CP.out A C wo3 gq hA4 hC3 (TQ.out.ext HX5.out))
                have CM : Hid (∀ w', Calls Tryz.prog 136 #[.int .i64 A, .int .i64 (16 + (C : Int))] w' fun e w'' => e = .returned (.int .i64 (m : Nat)) ∧ w' = w'') := fun w' => by rw [hm]; exact move_c A C w' (by omega) hC3
                rw [← hm] at HO5
                have HM3 : Hid (m + 1 = 3 * A + (C + 1)) := by unfold Hid; omega
                clear hm
                rw [HMv1.out] at HNx1 HIn1
                have HRS : Hid (∀ j, (rowF L x0 m j).set m ((orPn L (partsL A (16 + (C : Int)) q) (j + 1) : Nat) : Int) = rowF L x0 m (j + 1)) := fun j => by rw [← HMv1.out]; exact rowF_set L x0 m j hm12
                have HRG : Hid (∀ j, nth (rowF L x0 m j) m = ((orPn L (partsL A (16 + (C : Int)) q) j : Nat) : Int)) := fun j => by rw [← HMv1.out]; exact rowF_get L x0 m j hm12
                have HOl : Hid (∀ j, j ≤ (partsL A (16 + (C : Int)) q).length → orPn L (partsL A (16 + (C : Int)) q) j < 1024) := orPn_lt (fun q' hq' => HIn1.out q' hq') (by rw [HNN.out]; exact hn)
                generalize partsL A (16 + (C : Int)) q = P at *
                go_wp2_with fail
                refine CP1.out.mono ?_
                rintro e wp ⟨vp, rfl, op, yp⟩
                obtain ⟨ap, cp, rfl⟩ := op.shape
                have RP : Hid (RowP w2 w2.heap.size wo3.heap.size 3 23 (fun k => k < wo3.heap.size) (.slice ap P.length cp) P (rowF L x0 m 0) wp) := ⟨HO5.out.ext yp, op, HX5.out.trans yp⟩
                clear op yp CP1
                generalize hmp : P.length = mp at *
                have HMP := Lib.hid hmp
                clear hmp
                go_wp2
                go_loopw [44] (fun i wr => Hid (∃ j : Nat, j ≤ mp ∧ i = .int .i64 j ∧ RowP w2 w2.heap.size wo3.heap.size 3 23 (fun k => k < wo3.heap.size) (.slice ap mp cp) P (rowF L x0 m j) wr)) (fun i _ => mp - (intOf i).toNat)
                case atStart => exact Lib.hid ⟨0, by omega, rfl, RP.out⟩
                case round =>
                  obtain ⟨j, hj, rfl, hrp⟩ := hrel.out
                  have HRP := Lib.hid hrp
                  clear hrel hrp
                  by_cases hjm : j < mp
                  · obtain ⟨u1, u2, u3⟩ := HRP.out
                    have hjP : j < P.length := by rw [HMP.out]; exact hjm
                    obtain ⟨gP, rfl, -, zP, -, hrows⟩ := u2.row (by omega)
                    obtain ⟨aj, cj, s1, s2, s3⟩ := hrows j hjP
                    have hmem := HIn1.out _ (rowI_mem2 hjP)
                    have u1' := own_sized u1 (rowF_length L x0 m j)
                    obtain ⟨g, cap', hv, -, hgs, hcell, hfz⟩ := u1'.row (by rw [rowF_length]; omega)
                    obtain ⟨rfl, -⟩ : w2.heap.size = g ∧ 12 = cap' := by simpa using hv
                    have hc := hcell m (by rw [rowF_length]; exact hm12)
                    rw [HRG.out] at hc
                    have hf := hfz m
                    have hpl := plc_lt hmem
                    have CA : Hid (∀ w', Ext wr w' → Calls Tryz.prog 156 #[.slice (some ⟨gL, 0, none⟩) n cL, .slice aj (rowI P j).length cj] w' fun e w'' => e = .returned (.int .i64 (plcN L (rowI P j) : Nat)) ∧ Ext w' w'') := fun w' x => CPt.out w' aj cj (rowI P j) (X2.out.trans (u3.trans x)) (s3.ext x).1 hmem
                    have hp9 : plcN L (rowI P j) < 10 := by rw [HNN.out] at hpl; omega
                    have ho1 := HOl.out j (by omega)
                    have HSet := HRS.out j
                    have hoj : orPn L P (j + 1) = orN (orPn L P j) (pow2 (plcN L (rowI P j))) := rfl
                    rw [hoj] at HSet
                    replace HSet := Lib.hid HSet
                    clear u1 u1' u2 u3 hrows hv hcell hfz hmem hpl s3 hoj
                    generalize orPn L P j = cur at *
                    generalize plcN L (rowI P j) = p at *
                    generalize (rowI P j).length = lj at *
                    have hpc := pow2_cast p
                    have hp8 : pow2 p ≤ 512 := pow2_le p 9 (by omega)
                    have hwz : IntKind.i64.wrap ((pow2 p : Nat) : Int) = ((pow2 p : Nat) : Int) := IntWalk.i64_in _ (by omega)
                    have eor := i64_orN cur (pow2 p) (by omega) (by omega)
                    have hmi : (m : Int) < 12 := by omega
                    have HC := Lib.hid hc
                    have HF := Lib.hid hf
                    go_wp2
                    go_region_with
                      ((first
                        | (go_at_call 136; refine (CM.out _).mono ?_; rintro e wl ⟨rfl, rfl⟩)
                        | (go_at_call 156; refine (CA.out _ (by (repeat (first | exact Ext.refl _ | assumption | refine Ext.alloc ?_ _ | refine Ext.drewN ?_ _ | refine Ext.drew ?_)))).mono ?_; rintro e wk ⟨rfl, yk⟩; have ek := Ext.trans (show Ext wr _ by (repeat (first | exact Ext.refl _ | assumption | refine Ext.alloc ?_ _ | refine Ext.drewN ?_ _ | refine Ext.drew ?_))) yk; have ck := ek.cell' HC.out hgs; have fk := (ek.cells.2 _ _ hgs).trans HF.out; have zk := Nat.lt_of_lt_of_le hgs ek.size)))
                    all_goals
                      go_wp2
                      go_roundw
                      case rel => exact Lib.hid ⟨j + 1, by omega, by go_num, by rw [← HSet.out]; exact RowP.step HRP.out (rowF_length _ _ _ _) (by show w2.heap.size < wo3.heap.size; exact hbr) (Nat.le_refl _) hbr (Ext.trans (show Ext wr _ by (repeat (first | exact Ext.refl _ | assumption | refine Ext.alloc ?_ _ | refine Ext.drewN ?_ _ | refine Ext.drew ?_))) (Ext.trans yk (by (repeat (first | exact Ext.refl _ | assumption | refine Ext.alloc ?_ _ | refine Ext.drewN ?_ _ | refine Ext.drew ?_))))) _⟩
                      case measure => simp [intOf]; omega
                  · obtain rfl : j = mp := by omega
                    have hR : Hid (OwnI wr w2.heap.size 3 (.slice (some ⟨w2.heap.size, 0, none⟩) 12 12) (rowF L x0 (3 * A + (C + 1)) 0)) := by
                      unfold Hid
                      rw [← HM3.out, ← HNx1.out]
                      try rw [HMP.out]
                      exact HRP.out.1
                    have hE := Lib.hid HRP.out.2.2
                    clear HRP
                    go_wp2
                    go_roundw
                    case rel => exact Lib.hid ⟨C + 1, by omega, by go_num, hR.out, hE.out⟩
                    case measure => simp [intOf]; omega
              · obtain rfl : C = 3 := by omega
                go_wp2
                go_roundw
                case rel => exact Lib.hid ⟨A + 1, by omega, by go_num, HO5.out, HX5.out⟩
                case measure => simp [intOf]; omega
          · obtain rfl : A = 4 := by omega
            have HRow : Hid (OwnI wr w2.heap.size 3 (.slice (some ⟨w2.heap.size, 0, none⟩) 12 12) (rowA L x0 12)) := by unfold Hid; rw [← rowF_all]; exact HO.out
            obtain ⟨a1, c1, a2, c2, b0o, bio⟩ := HBX.out
            have XW := Lib.hid (Y2.out.trans HX4.out)
            have hbo := bio.1.2.2.2
            have b0 := XW.out.cell' b0o bio.1.2.2.2
            have bi := bio.ext XW.out
            have HI0 : Hid (IntsE wr ⟨3, XB w1.heap.size (.slice a1 (autE L k).length c1)⟩ (some ⟨w2.heap.size, 0, none⟩) (rowA L x0 12)) := by
              refine (OwnI.intsX HRow.out) fun g hg _ hx => ?_
              rcases hx with hx | hx
              · omega
              · have := bio.2.1.lt g hx; omega
            obtain ⟨⟨b1, b2, b3, b4⟩, b5, b6⟩ := id bi
            have HB0 := Lib.hid b0
            have HBI := Lib.hid bi
            have h12 : Hid ((rowA L x0 12).length = 12) := rowA_length _ _ _
            have hEl : (autE L k).length ≤ 10 := by rw [autE_len]; omega
            have hNl : (autN L k).length ≤ 10 := by rw [autN_len]; omega
            have XAll := Lib.hid (HX.out.trans XW.out)
            have hzA := XAll.out.size
            have hbE := Lib.hid b5
            clear bio b0o bi b5 b6 HBX HRow CP CPt
            generalize rowA L x0 12 = R12 at *
            generalize hE0 : autE L k = E0 at *
            generalize hN0 : autN L k = N0 at *
            generalize hne : E0.length = nE at *
            have HNE := Lib.hid hne
            generalize hnn0 : N0.length = nN at *
            have HNN0 := Lib.hid hnn0
            clear hne hnn0 hE0 hN0
            obtain ⟨E7, hE7⟩ : ∃ E7, E0 ++ [((q.ends : Nat) : Int)] = E7 := ⟨_, rfl⟩
            have HE7 := Lib.hid hE7
            clear hE7
            go_wp2
            go_region_law
              ((first
                | (go_simp; go_at_call 75; refine (CE.out _ (XAll.out.trans (by (repeat (first | exact Ext.refl _ | assumption | refine Ext.alloc ?_ _ | refine Ext.drewN ?_ _ | refine Ext.drew ?_))))).mono ?_; rintro e wk ⟨rfl, yk⟩; have ek := Ext.trans (show Ext wr _ by (repeat (first | exact Ext.refl _ | assumption | refine Ext.alloc ?_ _ | refine Ext.drewN ?_ _ | refine Ext.drew ?_))) yk; have ck := ek.cell' b0 b4; have fk := (ek.cells.2 _ _ b4).trans b2; have zk := Nat.lt_of_lt_of_le b4 ek.size)
                | (refine step_append_intA rfl _ _ _ rfl (w1.heap.size + 1) 3 Tryz.underlying23 infoInt _ E0 rfl (hbE.out.ext (Ext.trans ek (by (repeat (first | exact Ext.refl _ | assumption | refine Ext.alloc ?_ _ | refine Ext.drewN ?_ _ | refine Ext.drew ?_))))) _ ((q.ends : Nat) : Int) rfl (by first | exact cell_new0 _ _ _ | simp) (by have := HNE.out; omega) (by have h1 := ek.size; simp; omega) ?_; intro v7 w7 o7 g7 t7; rw [HE7.out] at o7; have M7 := AutIn.push1 (HBI.out.ext (Ext.trans ek (by (repeat (first | exact Ext.refl _ | assumption | refine Ext.alloc ?_ _ | refine Ext.drewN ?_ _ | refine Ext.drew ?_))))) (Nat.lt_succ_self _) (by decide) g7 o7 t7; have J7 := IntsE.push (HI0.out.ext (Ext.trans ek (by (repeat (first | exact Ext.refl _ | assumption | refine Ext.alloc ?_ _ | refine Ext.drewN ?_ _ | refine Ext.drew ?_))))) g7 t7; obtain ⟨a7, c7, rfl, -⟩ := o7.shape; obtain ⟨⟨m1, m2, m3, m4⟩, -, -⟩ := id M7; have m0 : w7.cell? ⟨w1.heap.size, 0, none⟩ = some (.slice a1 nE c1) := g7.cell ((Ext.trans ek (by (repeat (first | exact Ext.refl _ | assumption | refine Ext.alloc ?_ _ | refine Ext.drewN ?_ _ | refine Ext.drew ?_)))).cell' b0 b4) (fun e => by have := hbE.out.lt w1.heap.size e.symm; omega))))
            all_goals
              have X7 : Hid (Ext w1 w7) := Ext.row (XAll.out.trans (Ext.trans ek (by (repeat (first | exact Ext.refl _ | assumption | refine Ext.alloc ?_ _ | refine Ext.drewN ?_ _ | refine Ext.drew ?_))))) g7 (fun k hk => by have := hbE.out.lt k hk; omega)
              have S7 := AutIn.store (u := .slice a7 E7.length c7) M7 (Nat.lt_succ_self _)
              have SJ := IntsE.store (u := .slice a7 E7.length c7) J7 0
              have HS7 := Lib.hid S7
              have HSJ := Lib.hid SJ
              have hz7 := X7.out.size
              have HM0 := Lib.hid m0
              clear M7 J7 S7 SJ o7
              go_wp2_with (at_builtin; refine any_append_lsA (by rfl) _ _ _ rfl (w1.heap.size + 1) ⟨3, XB w1.heap.size (.slice a7 E7.length c7)⟩ 23 neE Tryz.underlying24 infoInts _ N0 rfl (HS7.out.2.2.ext (by (repeat (first | exact Ext.refl _ | assumption | refine Ext.alloc ?_ _ | refine Ext.drewN ?_ _ | refine Ext.drew ?_)))) _ (some ⟨w2.heap.size, 0, none⟩) 12 R12 rfl (by rw [h12.out]; simp [go_sem]) (HSJ.out.ext (by (repeat (first | exact Ext.refl _ | assumption | refine Ext.alloc ?_ _ | refine Ext.drewN ?_ _ | refine Ext.drew ?_)))) (by rw [h12.out]; exact Nat.le_refl _) (by have := HNN0.out; omega) (by simp; omega) ?_)
              intro v9 w9 o9 g9 t9
              have P9 := AutIn.push2 (HS7.out.ext (by (repeat (first | exact Ext.refl _ | assumption | refine Ext.alloc ?_ _ | refine Ext.drewN ?_ _ | refine Ext.drew ?_)))) (u1 := .slice a7 E7.length c7) (by simp [go_sem, m0, m4]) (Nat.lt_succ_self _) (by decide) g9 o9
              have X9 := Lib.hid (Ext.row (show Ext w1 _ from Ext.trans (X7.out.setCell (p := ⟨w1.heap.size, 0, none⟩) (Nat.le_refl _) (.slice a7 E7.length c7)) (by (repeat (first | exact Ext.refl _ | assumption | refine Ext.alloc ?_ _ | refine Ext.drewN ?_ _ | refine Ext.drew ?_)))) g9 (fun k hk => by have := HS7.out.2.2.lt k hk; omega))
              obtain ⟨a9, c9, rfl⟩ := o9.shape
              obtain ⟨⟨n0, n1, n2, n3, n4⟩, n5, n6⟩ := P9
              have HD := Lib.hid (AutBox.done (a := 0) (c := 0) n0 (Nat.lt_succ_self _) ⟨n2, n3, n4⟩ ⟨_, n1⟩ n5 n6)
              rw [List.length_append] at HD
              clear n5 n6 o9 HS7 HSJ
              go_wp2
              go_roundw
              case rel => exact Lib.hid ⟨k + 1, by omega, by go_num, by rw [HME.out, HE7.out, HMN.out]; exact HD.out, X9.out.setCell (p := ⟨w1.heap.size, 1, none⟩) (Nat.le_refl _) _⟩
              case measure => simp [intOf]; omega
      · obtain rfl : k = n := by omega
        obtain ⟨a1, c1, a2, c2, e0, ⟨e1, e2, e3, e4⟩, e5, e6⟩ := HBX.out
        have p0 := HX.out.cell' Q0.out (by omega)
        have p1 := HX.out.cell' Q1.out (by omega)
        have p2 := (HX.out.cells.2 w.heap.size 0 (by omega)).trans Q2.out
        have p3 := (HX.out.cells.2 w.heap.size 1 (by omega)).trans Q3.out
        have hzw : w.heap.size < wr.heap.size := by omega
        have hne : w.heap.size ≠ w1.heap.size := by omega
        have X2 := Lib.hid (X1.out.trans HX.out)
        have HE5 := Lib.hid e5
        have HE6 := Lib.hid e6
        clear e5 e6
        have HK : Hid (∀ u1 u2 : Value, OwnI ((wr.setCell ⟨w.heap.size, 0, none⟩ u1).setCell ⟨w.heap.size, 1, none⟩ u2) w.heap.size 3 (.slice a1 (autE L k).length c1) (autE L k) ∧ OwnLs ((wr.setCell ⟨w.heap.size, 0, none⟩ u1).setCell ⟨w.heap.size, 1, none⟩ u2) w.heap.size (ek 3) 23 (.slice a2 (autN L k).length c2) (autN L k)) := fun u1 u2 => by
          have g1 := grown_put1 wr w.heap.size 0 u1
          have g2 := grown_put1 (wr.setCell ⟨w.heap.size, 0, none⟩ u1) w.heap.size 1 u2
          have hh : ∃ cs fz, wr.heap[w.heap.size]? = some (.cells cs 63 fz) := by
            obtain ⟨cs, fz, h⟩ := QH.out
            exact ⟨cs, fz, (HX.out.block _ (by omega)).trans h⟩
          have hh2 : ∃ cs fz, (wr.setCell ⟨w.heap.size, 0, none⟩ u1).heap[w.heap.size]? = some (.cells cs 63 fz) := by
            obtain ⟨cs, fz, h⟩ := hh
            exact ⟨_, fz, by simp only [World.setCell, Array.getElem?_modify]; rw [h]; rfl⟩
          have n1 : (Value.slice a1 (autE L k).length c1).ownBlock = none ∨ (Value.slice a1 (autE L k).length c1).ownBlock ≠ some w.heap.size := by
            cases h : (Value.slice a1 (autE L k).length c1).ownBlock with
            | none => exact .inl rfl
            | some x => refine .inr fun e => ?_; have := HE5.out.lt x h; have := Option.some.inj e; omega
          have n2 : (Value.slice a2 (autN L k).length c2).ownBlock = none ∨ (Value.slice a2 (autN L k).length c2).ownBlock ≠ some w.heap.size := by
            cases h : (Value.slice a2 (autN L k).length c2).ownBlock with
            | none => exact .inl rfl
            | some x => refine .inr fun e => ?_; have := HE6.out.lt x h; have := Option.some.inj e; omega
          obtain ⟨vs, k1, k2⟩ := HE6.out
          have hty : (3 : Nat) ≠ 63 := by decide
          have L2 : OwnLs ((wr.setCell ⟨w.heap.size, 0, none⟩ u1).setCell ⟨w.heap.size, 1, none⟩ u2) (w1.heap.size + 1) ⟨3, XB w1.heap.size (.slice a1 (autE L k).length c1)⟩ 23 (.slice a2 (autN L k).length c2) (autN L k) :=
            ⟨vs, World.ownsRow.kept (World.ownsRow.kept k1 g1 n2) g2 n2, (k2.kept g1 (fun x hx => by rw [← Option.some.inj hx]; exact hh) hty).kept g2 (fun x hx => by rw [← Option.some.inj hx]; exact hh2) hty⟩
          exact ⟨((HE5.out.kept g1 n1).kept g2 n1).mono (by omega), (L2.wk (fun _ _ h => h.elim)).mono (by omega)⟩
        have HEl : Hid ((autE L k).length = (autE L k).length) := rfl
        clear HE5 HE6 HBX
        generalize hlE : (autE L k).length = nE at *
        generalize hlN : (autN L k).length = nN at *
        go_wp2
        refine bodyPost_ret (v := .agg #[.slice a1 nE c1, .slice a2 nN c2]) (by simp [results, Tryz.results115, go_sem, p0, p1]) rfl ?_
        exact HFin.out a1 c1 a2 c2 _ (HK.out _ _).1 (HK.out _ _).2 ((X2.out.setCell (p := ⟨w.heap.size, 0, none⟩) (Nat.le_refl _) _).setCell (p := ⟨w.heap.size, 1, none⟩) (Nat.le_refl _) _)
  · have hb : auB t.words = false := by unfold auB; rw [hk]; simp [hn]
    have HB := Lib.hid (fun (w' : World) (x : Ext w w') => RetAu.none (w := w) hb x)
    clear he hk hb
    generalize allL t.words = L at *
    generalize hnn : L.length = n at *
    have HNN := Lib.hid hnn
    clear hnn
    generalize RetAu w t.words = FINQ at *
    generalize t.words.length = nw at *
    have hn' : ¬ ((n : Int) ≤ 10) := by omega
    go_enter Tryz.func115, Tryz.ntmps115
    go_wp2_with (go_at_call 67; refine (CK.out _ (by (repeat (first | exact Ext.refl _ | assumption | refine Ext.alloc ?_ _ | refine Ext.drewN ?_ _ | refine Ext.drew ?_)))).mono ?_; rintro e w1 ⟨rfl, rfl⟩)
    refine (CA.out _ (by (repeat (first | exact Ext.refl _ | assumption | refine Ext.alloc ?_ _ | refine Ext.drewN ?_ _ | refine Ext.drew ?_)))).mono ?_
    rintro e w1 ⟨vL, rfl, oL, x1⟩
    obtain ⟨aL, cL, rfl⟩ := oL.shape
    have hz1 := x1.size
    simp at hz1
    have q0 : w1.cell? ⟨w.heap.size, 0, none⟩ = some (.slice none 0 0) := x1.cell' (by simp [go_sem]) (by simp)
    have q1 : w1.cell? ⟨w.heap.size, 1, none⟩ = some (.slice none 0 0) := x1.cell' (by simp [go_sem]) (by simp)
    have q2 : w1.frozen? ⟨w.heap.size, 0, none⟩ = false := (x1.cells.2 _ _ (by simp)).trans (by simp [go_sem])
    have q3 : w1.frozen? ⟨w.heap.size, 1, none⟩ = false := (x1.cells.2 _ _ (by simp)).trans (by simp [go_sem])
    have X1 := Lib.hid (Ext.trans (show Ext w _ by (repeat (first | exact Ext.refl _ | assumption | refine Ext.alloc ?_ _ | refine Ext.drewN ?_ _ | refine Ext.drew ?_))) x1)
    clear x1 oL CK CA
    rw [HNN.out]
    go_wp2
    have X1' := X1.out
    refine bodyPost_ret (v := .agg #[.slice none 0 0, .slice none 0 0]) (by simp [results, Tryz.results115, go_sem, q0, q1]) rfl (HB.out _ (by (repeat (first | exact Ext.refl _ | assumption | refine Ext.alloc ?_ _ | refine Ext.drewN ?_ _ | refine Ext.drew ?_ | refine Ext.setCell ?_ (by simp; try omega) _))))
end Go.Proofs.YtlaamecfknkmlaaGreat
