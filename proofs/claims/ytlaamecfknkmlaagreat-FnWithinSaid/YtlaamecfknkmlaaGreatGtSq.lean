/- Merged texts: contracts and plain lemmas (Sq). -/
import Derived.Test.YtlaamecfknkmlaaGreatGtSp
import Derived.Lib.QuietBelow
namespace Go.Kt
set_option linter.unusedVariables false
/-- Whether the first k rows hold. -/
def rowsOk (E F : List Int) (N M L : List (List Int)) (k : Nat) : Prop := ∀ j, j < k → rowB E.length F.length (rowI L j) = true ∧ stepB E F N M L (rowI L j) = true
theorem okS_all {e f : List Int} {L : List (List Int)} (hb : (auB e && auB f) = true) (hl : L.length ≤ 100) (h1 : hasP L (1, 1) = true) (h : rowsOk (auE e) (auE f) (auN e) (auN f) L L.length) : okB e f L = true := by
  have key : ∀ r, r ∈ L → rowB (auE e).length (auE f).length r = true ∧ stepB (auE e) (auE f) (auN e) (auN f) L r = true := fun r hr => by
    obtain ⟨i, hi, he⟩ := List.mem_iff_getElem.1 hr
    have := h i hi
    rwa [rowI_getElem _ _ hi, he] at this
  unfold okB
  rw [hb, h1, Bool.true_and, decide_eq_true hl, Bool.true_and, Bool.true_and, Bool.and_eq_true, List.all_eq_true, List.all_eq_true]
  exact ⟨fun r hr => (key r hr).1, fun r hr => (key r hr).2⟩
theorem okS_bad {e f : List Int} {L : List (List Int)} {k : Nat} (hk : k < L.length) (h : rowB (auE e).length (auE f).length (rowI L k) = false ∨ stepB (auE e) (auE f) (auN e) (auN f) L (rowI L k) = false) : okB e f L = false := by
  cases ho : okB e f L
  · rfl
  · have ok := (okB_iff e f L).1 ho
    have hm : rowI L k ∈ L := by rw [rowI_getElem _ _ hk]; exact List.getElem_mem hk
    have h1 := ok.row _ hm
    rcases h with h | h
    · rw [h1] at h; cases h
    · exfalso
      have : stepB (auE e) (auE f) (auN e) (auN f) L (rowI L k) = true := by
        unfold stepB movB endB hasP
        simp only [Bool.and_eq_true, decide_eq_true_eq, List.all_eq_true, List.mem_range]
        exact ⟨ok.ends _ hm, fun m hm' => ok.next _ hm m hm'⟩
      rw [this] at h; cases h
theorem movS_succ (N M L : List (List Int)) (p : Nat × Nat) (k : Nat) : movB N M L p (k + 1) = (movB N M L p k && hasP L (nxP N M p k)) := by
  unfold movB; rw [List.range_succ, List.all_append]; simp
theorem movS_bad {N M L : List (List Int)} {p : Nat × Nat} {k : Nat} (hk : k < 12) (h : hasP L (nxP N M p k) = false) : movB N M L p 12 = false := by
  unfold movB
  exact List.all_eq_false.2 ⟨k, List.mem_range.2 hk, by simp [h]⟩
abbrev HeldQS (b1 b2 gr o : Nat) (v0 v1 u0 u1 x y : Value) (w : World) : Prop := (w.cell? ⟨b1, 0, none⟩ = some v0 ∧ w.cell? ⟨b1, 1, none⟩ = some v1) ∧ (w.cell? ⟨b2, 0, none⟩ = some u0 ∧ w.cell? ⟨b2, 1, none⟩ = some u1) ∧ w.cell? ⟨gr, o, none⟩ = some x ∧ w.cell? ⟨gr, o + 1, none⟩ = some y
theorem HeldQS.ext {b1 b2 gr o : Nat} {v0 v1 u0 u1 x y : Value} {w w' : World} (h : HeldQS b1 b2 gr o v0 v1 u0 u1 x y w) (e : Ext w w') : HeldQS b1 b2 gr o v0 v1 u0 u1 x y w' :=
  ⟨⟨e.cell' h.1.1 (lt_of_cell h.1.1), e.cell' h.1.2 (lt_of_cell h.1.2)⟩, ⟨e.cell' h.2.1.1 (lt_of_cell h.2.1.1), e.cell' h.2.1.2 (lt_of_cell h.2.1.2)⟩, e.cell' h.2.2.1 (lt_of_cell h.2.2.1), e.cell' h.2.2.2 (lt_of_cell h.2.2.2)⟩
abbrev HeldXS (b1 b2 gr o : Nat) (v0 v1 u0 u1 x y : Value) (w0 w : World) : Prop := HeldQS b1 b2 gr o v0 v1 u0 u1 x y w ∧ Ext w0 w
theorem HeldXS.more {b1 b2 gr o : Nat} {v0 v1 u0 u1 x y : Value} {w0 w w' : World} (h : HeldXS b1 b2 gr o v0 v1 u0 u1 x y w0 w) (e : Ext w w') : HeldXS b1 b2 gr o v0 v1 u0 u1 x y w0 w' := ⟨h.1.ext e, h.2.trans e⟩
end Go.Kt
namespace Go.Proofs.YtlaamecfknkmlaaGreat
set_option linter.unusedVariables false
open Go.RowKit Go.Kt
theorem inBS_eq (n : Nat) (x : Int) : inB x 0 (((pow2 n : Nat) : Int) - 1) = inS n x := by
  unfold inB inS pow2
  rw [Bool.eq_iff_iff]
  simp only [decide_eq_true_eq]
  omega
set_option maxRecDepth 100000 in
set_option maxHeartbeats 8000000 in
theorem sPairsOk_c (a b ar : Option Addr) (c d cr : Nat) (e f : List Int) (L : List (List Int)) (w : World) (he : IntsAt w a e) (hf : IntsAt w b f) (hL : RowsAt w ar L) (hle : e.length ≤ 4194304) (hlf : f.length ≤ 4194304) (hLl : L.length ≤ 4194304) :
    Calls Tryz.prog 12 #[.slice a e.length c, .slice b f.length d, .slice ar L.length cr] w fun r w' => r = .returned (.bool (okB e f L)) ∧ Ext w w' := by
  have CA : Hid (∀ w', Ext w w' → Calls Tryz.prog 59 #[.slice a e.length c] w' (RetAu w' e)) := fun w' x => sAutoOf_c a c e w' (he.ext x) hle
  have CB : Hid (∀ w', Ext w w' → Calls Tryz.prog 59 #[.slice b f.length d] w' (RetAu w' f)) := fun w' x => sAutoOf_c b d f w' (hf.ext x) hlf
  have CH : Hid (∀ w' (x y : Int), Ext w w' → Calls Tryz.prog 60 #[.slice ar L.length cr, .int .i64 x, .int .i64 y] w' fun e w'' => e = .returned (.bool (decide ([x, y] ∈ L))) ∧ Ext w' w'') := fun w' x y h => l6Has_c ar cr L x y w' (hL.ext h) (by omega)
  have HLr := Lib.hid hL
  clear he hf hL
  by_cases hb : (auB e && auB f) = true
  · have h1 : auB e = true := by rw [Bool.and_eq_true] at hb; exact hb.1
    have h2 : auB f = true := by rw [Bool.and_eq_true] at hb; exact hb.2
    have hA := auto_of e
    have hB := auto_of f
    have hp1 := auE_pos h1
    have hp2 := auE_pos h2
    have hLenA := Lib.hid hA.len
    have hLenB := Lib.hid hB.len
    have hTenA := hA.ten
    have hTenB := hB.ten
    have hTA := two_10 hA
    have hTB := two_10 hB
    have HAuA := Lib.hid hA
    have HAuB := Lib.hid hB
    have HAll : Hid (L.length ≤ 100 → hasP L (1, 1) = true → rowsOk (auE e) (auE f) (auN e) (auN f) L L.length → okB e f L = true) := fun x y z => okS_all hb x y z
    have HBad : Hid (∀ k, k < L.length → rowB (auE e).length (auE f).length (rowI L k) = false ∨ stepB (auE e) (auE f) (auN e) (auN f) L (rowI L k) = false → okB e f L = false) := fun k hk h => okS_bad hk h
    have HFew : Hid (¬ (L.length ≤ 100 ∧ hasP L (1, 1) = true) → okB e f L = false) := fun h => by
      cases ho : okB e f L
      · rfl
      · have ok := (okB_iff e f L).1 ho
        exact absurd ⟨ok.few, decide_eq_true ok.one⟩ h
    have hone : hasP L (1, 1) = decide ([1, 1] ∈ L) := rfl
    clear h1 h2 hb hA hB
    generalize okB e f L = F at *
    generalize hne : e.length = ne at *
    generalize hnf : f.length = nf at *
    clear hne hnf
    go_enter Tryz.func12, Tryz.ntmps12
    go_wp2_with fail
    refine (CA.out _ (by (repeat (first | exact Ext.refl _ | assumption | refine Ext.alloc ?_ _ | refine Ext.drewN ?_ _ | refine Ext.drew ?_)))).mono ?_
    rintro r w1 ⟨a1, c1, a2, c2, rfl, r1, x1⟩
    have R1 := Lib.hid r1
    have X1 := Lib.hid (Ext.trans (show Ext w _ by (repeat (first | exact Ext.refl _ | assumption | refine Ext.alloc ?_ _ | refine Ext.drewN ?_ _ | refine Ext.drew ?_))) x1)
    clear r1 x1 CA
    go_wp2_with fail
    refine (CB.out _ (X1.out.trans (by (repeat (first | exact Ext.refl _ | assumption | refine Ext.alloc ?_ _ | refine Ext.drewN ?_ _ | refine Ext.drew ?_))))).mono ?_
    rintro r w2 ⟨b1, d1, b2, d2, rfl, r2, x2⟩
    have RB := Lib.hid r2
    have RA := Lib.hid (R1.out.ext (Ext.trans (by (repeat (first | exact Ext.refl _ | assumption | refine Ext.alloc ?_ _ | refine Ext.drewN ?_ _ | refine Ext.drew ?_))) x2))
    have p0 : w2.cell? ⟨w1.heap.size, 0, none⟩ = some (.slice a1 (auE e).length c1) := x2.cell' (by simp [go_sem]) (by simp)
    have p1 : w2.cell? ⟨w1.heap.size, 1, none⟩ = some (.slice a2 (auN e).length c2) := x2.cell' (by simp [go_sem]) (by simp)
    have X2 := Lib.hid (X1.out.trans (Ext.trans (by (repeat (first | exact Ext.refl _ | assumption | refine Ext.alloc ?_ _ | refine Ext.drewN ?_ _ | refine Ext.drew ?_))) x2))
    have hz12 := x2.size
    simp at hz12
    clear r2 x2 CB X1 R1
    rw [hLenA.out] at p1
    rw [hLenA.out, hLenB.out]
    have SA1 : Hid (∀ w' (p m : Nat), Ext w2 w' → p < 4294967296 → m < 12 → Calls Tryz.prog 63 #[autV a1 (auE e).length c1 a2 (auE e).length c2, .int .i64 p, .int .i64 m] w' fun r w'' => r = .returned (.int .i64 (stp (auN e) p m : Nat)) ∧ Ext w' w'') := fun w' p m x hp hm => by
      have h := l5Step_c a1 a2 c1 c2 (auE e) (auN e) p m w' ((RA.out.ext x).2.rows) HAuA.out hp hm
      rw [hLenA.out] at h; exact h
    have SB1 : Hid (∀ w' (p m : Nat), Ext w2 w' → p < 4294967296 → m < 12 → Calls Tryz.prog 63 #[autV b1 (auE f).length d1 b2 (auE f).length d2, .int .i64 p, .int .i64 m] w' fun r w'' => r = .returned (.int .i64 (stp (auN f) p m : Nat)) ∧ Ext w' w'') := fun w' p m x hp hm => by
      have h := l5Step_c b1 b2 d1 d2 (auE f) (auN f) p m w' ((RB.out.ext x).2.rows) HAuB.out hp hm
      rw [hLenB.out] at h; exact h
    have SA2 : Hid (∀ w' (p : Nat), Ext w2 w' → p < 4294967296 → Calls Tryz.prog 62 #[autV a1 (auE e).length c1 a2 (auE e).length c2, .int .i64 p] w' fun r w'' => r = .returned (.int .i64 (img (auE e) p : Nat)) ∧ Ext w' w'') := fun w' p x hp =>
      l5Ends_c a1 a2 c1 _ c2 (auE e) (auN e) p w' ((RA.out.ext x).1.ints) HAuA.out hp
    have SB2 : Hid (∀ w' (p : Nat), Ext w2 w' → p < 4294967296 → Calls Tryz.prog 62 #[autV b1 (auE f).length d1 b2 (auE f).length d2, .int .i64 p] w' fun r w'' => r = .returned (.int .i64 (img (auE f) p : Nat)) ∧ Ext w' w'') := fun w' p x hp =>
      l5Ends_c b1 b2 d1 _ d2 (auE f) (auN f) p w' ((RB.out.ext x).1.ints) HAuB.out hp
    have CI : Hid (∀ (w' : World) (x y : Int) (n : Nat), y = ((pow2 n : Nat) : Int) - 1 → Calls Tryz.prog 61 #[.int .i64 x, .int .i64 0, .int .i64 y] w' fun r w'' => r = .returned (.bool (inS n x)) ∧ w' = w'') := fun w' x y n hy => by
      rw [← inBS_eq, ← hy]; exact l1In_c x 0 y w'
    have hpA : pow2 (auE e).length ≤ 1024 := hTA
    have hpB : pow2 (auE f).length ≤ 1024 := hTB
    have hpA1 := pow2_pos (auE e).length
    have hpB1 := pow2_pos (auE f).length
    clear RA RB hLenA hLenB HAuA HAuB hTA hTB
    generalize hN : auN e = N at *
    generalize hM : auN f = M at *
    generalize hE : auE e = E at *
    generalize hF : auE f = F2 at *
    clear hN hM hE hF
    have HB : Hid (∀ w', Ext (w2.alloc (.cells #[.slice b1 F2.length d1, .slice b2 F2.length d2] 63)) w' → (w'.cell? ⟨w1.heap.size, 0, none⟩ = some (.slice a1 E.length c1) ∧ w'.cell? ⟨w1.heap.size, 1, none⟩ = some (.slice a2 E.length c2)) ∧ (w'.cell? ⟨w2.heap.size, 0, none⟩ = some (.slice b1 F2.length d1) ∧ w'.cell? ⟨w2.heap.size, 1, none⟩ = some (.slice b2 F2.length d2))) := fun w' x =>
      ⟨⟨(Ext.trans ((Ext.refl w2).alloc _) x).cell' p0 (by omega), (Ext.trans ((Ext.refl w2).alloc _) x).cell' p1 (by omega)⟩, x.cell' (by simp [go_sem]) (by simp), x.cell' (by simp [go_sem]) (by simp)⟩
    generalize hnE : E.length = nE at *
    generalize hnF : F2.length = nF at *
    have HnE := Lib.hid hnE
    have HnF := Lib.hid hnF
    clear hnE hnF
    have hE0 : ¬ ((nE : Int) = 0) := by omega
    have hF0 : ¬ ((nF : Int) = 0) := by omega
    have hE0' : ((nE : Int) == 0) = false := by simpa using hE0
    have hF0' : ((nF : Int) == 0) = false := by simpa using hF0
    obtain ⟨⟨p0', p1'⟩, f0', f1'⟩ := HB.out _ (Ext.refl _)
    generalize hnL : L.length = nL at *
    have HnL := Lib.hid hnL
    clear hnL
    by_cases h100 : nL ≤ 100
    · have h100i : ¬ (100 < (nL : Int)) := by omega
      have C11 : Hid (Calls Tryz.prog 60 #[.slice ar nL cr, .int .i64 1, .int .i64 1] (w2.alloc (.cells #[.slice b1 nF d1, .slice b2 nF d2] 63)) fun e w'' => e = .returned (.bool (hasP L (1, 1))) ∧ Ext (w2.alloc (.cells #[.slice b1 nF d1, .slice b2 nF d2] 63)) w'') := by
        rw [hone]; exact CH.out _ 1 1 (X2.out.trans (by (repeat (first | exact Ext.refl _ | assumption | refine Ext.alloc ?_ _ | refine Ext.drewN ?_ _ | refine Ext.drew ?_))))
      by_cases h11 : hasP L (1, 1) = true
      · rw [h11] at C11
        have HAll1 := Lib.hid (HAll.out h100 h11)
        clear HAll HFew h11 hone
        go_wp2_with (go_at_call 60; refine C11.out.mono ?_; rintro e w3 ⟨rfl, y3⟩; have X3 := Lib.hid y3; clear y3)
        clear p0' p1' f0' f1' C11
        go_loopw [9] (fun i wr => Hid (∃ k : Nat, k ≤ nL ∧ i = .int .i64 k ∧ rowsOk E F2 N M L k ∧ Ext w3 wr)) (fun i _ => nL - (intOf i).toNat)
        case atStart => exact Lib.hid ⟨0, Nat.zero_le _, rfl, fun j hj => absurd hj (Nat.not_lt_zero _), by (repeat (first | exact Ext.refl _ | assumption | refine Ext.alloc ?_ _ | refine Ext.drewN ?_ _ | refine Ext.drew ?_))⟩
        case round =>
          obtain ⟨k, hk, rfl, hok, hx⟩ := hrel.out
          have HOk := Lib.hid hok
          have HX := Lib.hid hx
          clear hrel hok hx
          by_cases hkn : k < nL
          · have hki : (k : Int) < (nL : Int) := by omega
            have hkL : k < L.length := by rw [HnL.out]; exact hkn
            have XW := Lib.hid (X3.out.trans HX.out)
            have X2W := Lib.hid (Ext.trans ((Ext.refl w2).alloc (.cells #[.slice b1 nF d1, .slice b2 nF d2] 63)) XW.out)
            have X0W := Lib.hid (X2.out.trans X2W.out)
            obtain ⟨g, og, q1, q2⟩ := HLr.out
            obtain ⟨rfl, hg⟩ := q1 (by omega)
            obtain ⟨ai, ci, d0, gr, o2, s1, s2⟩ := q2 k hkL
            have d1' := X0W.out.cell' d0 hg
            have HBad1 := Lib.hid (HBad.out k hkn)
            obtain ⟨⟨e0, e1⟩, f0, f1⟩ := HB.out wr XW.out
            clear q1 q2 d0
            by_cases hl : (rowI L k).length = 2
            · obtain ⟨rfl, hgr⟩ := s1 (by omega)
              have t0 := s2 0 (by omega)
              have t1 := s2 1 (by omega)
              rw [Nat.add_zero] at t0
              have t0w := X0W.out.cell' t0 hgr
              have t1w := X0W.out.cell' t1 hgr
              rw [hl] at d1'
              have H1 : Hid (HeldQS w1.heap.size w2.heap.size gr o2 (.slice a1 nE c1) (.slice a2 nE c2) (.slice b1 nF d1) (.slice b2 nF d2) (.int .i64 (nth (rowI L k) 0)) (.int .i64 (nth (rowI L k) 1)) wr) := ⟨⟨e0, e1⟩, ⟨f0, f1⟩, t0w, t1w⟩
              have hrb : rowB nE nF (rowI L k) = (inS nE (nth (rowI L k) 0) && inS nF (nth (rowI L k) 1)) := by unfold rowB; rw [decide_eq_true hl, Bool.true_and]
              have HRB := Lib.hid hrb
              have CIa : Hid (∀ w', Calls Tryz.prog 61 #[.int .i64 (nth (rowI L k) 0), .int .i64 0, .int .i64 (((pow2 nE : Nat) : Int) - 1)] w' fun r w'' => r = .returned (.bool (inS nE (nth (rowI L k) 0))) ∧ w' = w'') := fun w' => CI.out w' _ _ nE rfl
              have CIb : Hid (∀ w', Calls Tryz.prog 61 #[.int .i64 (nth (rowI L k) 1), .int .i64 0, .int .i64 (((pow2 nF : Nat) : Int) - 1)] w' fun r w'' => r = .returned (.bool (inS nF (nth (rowI L k) 1))) ∧ w' = w'') := fun w' => CI.out w' _ _ nF rfl
              have hpcA := pow2_cast nE
              have hwzA : IntKind.i64.wrap ((pow2 nE : Nat) : Int) = ((pow2 nE : Nat) : Int) := IntWalk.i64_in _ (by omega)
              have hpcB := pow2_cast nF
              have hwzB : IntKind.i64.wrap ((pow2 nF : Nat) : Int) = ((pow2 nF : Nat) : Int) := IntWalk.i64_in _ (by omega)
              have hwsA : IntKind.i64.wrap (((pow2 nE : Nat) : Int) - 1) = ((pow2 nE : Nat) : Int) - 1 := IntWalk.i64_in _ (by omega)
              have hwsB : IntKind.i64.wrap (((pow2 nF : Nat) : Int) - 1) = ((pow2 nF : Nat) : Int) - 1 := IntWalk.i64_in _ (by omega)
              clear s1 s2 t0 t1 t0w t1w e0 e1 f0 f1 CI
              cases hi0 : inS nE (nth (rowI L k) 0)
              · rw [hi0] at CIa
                have HF2 := Lib.hid (HBad1.out (.inl (by rw [HRB.out, hi0]; rfl)))
                clear hrb HRB hi0 HBad1 HBad HAll1 HOk hl
                generalize nth (rowI L k) 0 = x0 at *
                generalize nth (rowI L k) 1 = x1 at *
                go_wp2
                have K0a : HeldXS w1.heap.size w2.heap.size gr o2 (.slice a1 nE c1) (.slice a2 nE c2) (.slice b1 nF d1) (.slice b2 nF d2) (.int .i64 x0) (.int .i64 x1) wr wr.drew := ⟨H1.out.ext (by (repeat (first | exact Ext.refl _ | assumption | refine Ext.alloc ?_ _ | refine Ext.drewN ?_ _ | refine Ext.drew ?_))), by (repeat (first | exact Ext.refl _ | assumption | refine Ext.alloc ?_ _ | refine Ext.drewN ?_ _ | refine Ext.drew ?_))⟩
                refine wp_region_held_drew (S := HeldXS w1.heap.size w2.heap.size gr o2 (.slice a1 nE c1) (.slice a2 nE c2) (.slice b1 nF d1) (.slice b2 nF d2) (.int .i64 x0) (.int .i64 x1) wr) (by kernel_rfl) K0a (fun hHeld => ?_)
                (refine wpAnyH_take (i := 0) (v := ?v0a) (by simp only [List.getElem?_toArray, List.getElem?_cons_zero]; rfl) (by kernel_rfl) (by kernel_rfl) (by kernel_rfl) (by exact fun _ _ _ h => h) (Or.inl ⟨by rfl, ?y0a⟩) (by assumption) ?r0a)
                case y0a =>
                  intro w hSw
                  obtain ⟨⟨⟨hs0, hs1⟩, ⟨hs2, hs3⟩, hs4, hs5⟩, -⟩ := hSw
                  go_simp
                  all_goals (with_reducible rfl)
                (try go_frame)
                (refine wpAnyH_take (i := 1) (v := ?v1a) (by simp only [List.getElem?_toArray, List.getElem?_cons_succ, List.getElem?_cons_zero]; rfl) (by kernel_rfl) (by kernel_rfl) (by kernel_rfl) (by exact fun _ _ _ h => h) (Or.inl ⟨by rfl, ?y1a⟩) (by assumption) ?r1a)
                case y1a =>
                  intro w hSw
                  obtain ⟨⟨⟨hs0, hs1⟩, ⟨hs2, hs3⟩, hs4, hs5⟩, -⟩ := hSw
                  go_simp
                  all_goals (with_reducible rfl)
                (try go_frame)
                (refine wpAnyH_take (i := 2) (v := ?v2a) (by simp only [List.getElem?_toArray, List.getElem?_cons_succ, List.getElem?_cons_zero]; rfl) (by kernel_rfl) (by kernel_rfl) (by kernel_rfl) (by exact fun _ _ _ h => h) (Or.inl ⟨by rfl, ?y2a⟩) (by assumption) ?r2a)
                case y2a =>
                  intro w hSw
                  obtain ⟨⟨⟨hs0, hs1⟩, ⟨hs2, hs3⟩, hs4, hs5⟩, -⟩ := hSw
                  go_simp
                  all_goals (with_reducible rfl)
                (try go_frame)
                (refine wpAnyH_take (i := 3) (v := ?v3a) (by simp only [List.getElem?_toArray, List.getElem?_cons_succ, List.getElem?_cons_zero]; rfl) (by kernel_rfl) (by kernel_rfl) (by kernel_rfl) (by exact fun _ _ _ h => h) (Or.inl ⟨by rfl, ?y3a⟩) (by assumption) ?r3a)
                case y3a =>
                  intro w hSw
                  obtain ⟨⟨⟨hs0, hs1⟩, ⟨hs2, hs3⟩, hs4, hs5⟩, -⟩ := hSw
                  go_simp
                  all_goals (with_reducible rfl)
                (try go_frame)
                (refine wpAnyH_take (i := 4) (v := ?v4a) (by simp only [List.getElem?_toArray, List.getElem?_cons_succ, List.getElem?_cons_zero]; rfl) (by kernel_rfl) (by kernel_rfl) (by kernel_rfl) (by exact fun _ _ _ h => h) (Or.inl ⟨by rfl, ?y4a⟩) (by assumption) ?r4a)
                case y4a =>
                  intro w hSw
                  obtain ⟨⟨⟨hs0, hs1⟩, ⟨hs2, hs3⟩, hs4, hs5⟩, -⟩ := hSw
                  go_simp
                  all_goals (with_reducible rfl)
                (try go_frame)
                (refine wpAnyH_take (i := 5) (v := ?v5a) (by simp only [List.getElem?_toArray, List.getElem?_cons_succ, List.getElem?_cons_zero]; rfl) (by kernel_rfl) (by kernel_rfl) (by kernel_rfl) (by exact fun _ _ _ h => h) (Or.inl ⟨by rfl, ?y5a⟩) (by assumption) ?r5a)
                case y5a =>
                  intro w hSw
                  obtain ⟨⟨⟨hs0, hs1⟩, ⟨hs2, hs3⟩, hs4, hs5⟩, -⟩ := hSw
                  go_simp
                  all_goals (with_reducible rfl)
                (try go_frame)
                (refine wpAnyH_take (i := 6) (v := ?v6a) (by simp only [List.getElem?_toArray, List.getElem?_cons_succ, List.getElem?_cons_zero]; rfl) (by kernel_rfl) (by kernel_rfl) (by kernel_rfl) (by exact fun _ _ _ h => h) (Or.inl ⟨by rfl, ?y6a⟩) (by assumption) ?r6a)
                case y6a =>
                  intro w hSw
                  obtain ⟨⟨⟨hs0, hs1⟩, ⟨hs2, hs3⟩, hs4, hs5⟩, -⟩ := hSw
                  go_simp
                  all_goals (with_reducible rfl)
                (try go_frame)
                (refine wpAnyH_take (i := 7) (v := ?v7a) (by simp only [List.getElem?_toArray, List.getElem?_cons_succ, List.getElem?_cons_zero]; rfl) (by kernel_rfl) (by kernel_rfl) (by kernel_rfl) (by exact fun _ _ _ h => h) (Or.inl ⟨by rfl, ?y7a⟩) (by assumption) ?r7a)
                case y7a =>
                  intro w hSw
                  obtain ⟨⟨⟨hs0, hs1⟩, ⟨hs2, hs3⟩, hs4, hs5⟩, -⟩ := hSw
                  go_simp
                  all_goals (with_reducible rfl)
                (try go_frame)
                (refine wpAnyH_take (i := 8) (v := ?v8a) (by simp only [List.getElem?_toArray, List.getElem?_cons_succ, List.getElem?_cons_zero]; rfl) (by kernel_rfl) (by kernel_rfl) (by kernel_rfl) (by exact fun _ _ _ h => h) (Or.inl ⟨by rfl, ?y8a⟩) (by assumption) ?r8a)
                case y8a =>
                  intro w hSw
                  obtain ⟨⟨⟨hs0, hs1⟩, ⟨hs2, hs3⟩, hs4, hs5⟩, -⟩ := hSw
                  go_simp
                  all_goals (with_reducible rfl)
                (try go_frame)
                (refine wpAnyH_take (i := 9) (v := ?v9a) (by simp only [List.getElem?_toArray, List.getElem?_cons_succ, List.getElem?_cons_zero]; rfl) (by kernel_rfl) (by kernel_rfl) (by kernel_rfl) (by exact fun _ _ _ h => h) (Or.inl ⟨by rfl, ?y9a⟩) (by assumption) ?r9a)
                case y9a =>
                  intro w hSw
                  obtain ⟨⟨⟨hs0, hs1⟩, ⟨hs2, hs3⟩, hs4, hs5⟩, -⟩ := hSw
                  go_simp
                  all_goals (with_reducible rfl)
                (try go_frame)
                (refine wpAnyH_take (i := 10) (v := ?v10a) (by simp only [List.getElem?_toArray, List.getElem?_cons_succ, List.getElem?_cons_zero]; rfl) (by kernel_rfl) (by kernel_rfl) (by kernel_rfl) (by exact fun _ _ _ h => h) (Or.inl ⟨by rfl, ?y10a⟩) (by assumption) ?r10a)
                case y10a =>
                  intro w hSw
                  obtain ⟨⟨⟨hs0, hs1⟩, ⟨hs2, hs3⟩, hs4, hs5⟩, -⟩ := hSw
                  go_simp
                  all_goals (with_reducible rfl)
                (try go_frame)
                (refine wpAnyH_take (i := 11) (v := ?v11a) (by simp only [List.getElem?_toArray, List.getElem?_cons_succ, List.getElem?_cons_zero]; rfl) (by kernel_rfl) (by kernel_rfl) (by kernel_rfl) (by exact fun _ _ _ h => h) (Or.inl ⟨by rfl, ?y11a⟩) (by assumption) ?r11a)
                case y11a =>
                  intro w hSw
                  obtain ⟨⟨⟨hs0, hs1⟩, ⟨hs2, hs3⟩, hs4, hs5⟩, -⟩ := hSw
                  go_simp
                  all_goals (with_reducible rfl)
                (try go_frame)
                refine wpAnyH_ready (rs := [12]) (by kernel_rfl) (by simp) ?_
                refine AllReadyH.cons (by simp only [List.getElem?_toArray, List.getElem?_cons_succ, List.getElem?_cons_zero]; rfl) (fun K hK => ?_) AllReadyH.nil
                go_simp
                (go_at_call 61; with_reducible refine (CIa.out _).mono ?_; rintro e wk ⟨rfl, rfl⟩)
                refine hK.out _ _ ?_ (fun hHeld => ?_)
                · assumption
                clear hK K
                (try go_frame)
                (refine wpAnyH_take (i := 13) (v := ?v13a) (by simp only [List.getElem?_toArray, List.getElem?_cons_succ, List.getElem?_cons_zero]; rfl) (by kernel_rfl) (by kernel_rfl) (by kernel_rfl) (by exact fun _ _ _ h => h) (Or.inl ⟨by rfl, ?y13a⟩) (by assumption) ?r13a)
                case y13a =>
                  intro w hSw
                  obtain ⟨⟨⟨hs0, hs1⟩, ⟨hs2, hs3⟩, hs4, hs5⟩, -⟩ := hSw
                  go_simp
                  all_goals (with_reducible rfl)
                (try go_frame)
                (refine wpAnyH_take (i := 14) (v := ?v14a) (by simp only [List.getElem?_toArray, List.getElem?_cons_succ, List.getElem?_cons_zero]; rfl) (by kernel_rfl) (by kernel_rfl) (by kernel_rfl) (by exact fun _ _ _ h => h) (Or.inl ⟨by rfl, ?y14a⟩) (by assumption) ?r14a)
                case y14a =>
                  intro w hSw
                  obtain ⟨⟨⟨hs0, hs1⟩, ⟨hs2, hs3⟩, hs4, hs5⟩, -⟩ := hSw
                  go_simp
                  all_goals (with_reducible rfl)
                (try go_frame)
                (refine wpAnyH_take (i := 15) (v := ?v15a) (by simp only [List.getElem?_toArray, List.getElem?_cons_succ, List.getElem?_cons_zero]; rfl) (by kernel_rfl) (by kernel_rfl) (by kernel_rfl) (by exact fun _ _ _ h => h) (Or.inl ⟨by rfl, ?y15a⟩) (by assumption) ?r15a)
                case y15a =>
                  intro w hSw
                  obtain ⟨⟨⟨hs0, hs1⟩, ⟨hs2, hs3⟩, hs4, hs5⟩, -⟩ := hSw
                  go_simp
                  all_goals (with_reducible rfl)
                (try go_frame)
                (refine wpAnyH_take (i := 16) (v := undef) (by simp only [List.getElem?_toArray, List.getElem?_cons_succ, List.getElem?_cons_zero]; rfl) (by kernel_rfl) (by kernel_rfl) (by kernel_rfl) (by exact fun _ _ _ h => h) (Or.inr ⟨by rfl, rfl⟩) (by assumption) ?_)
                (try go_frame)
                (refine wpAnyH_take (i := 17) (v := undef) (by simp only [List.getElem?_toArray, List.getElem?_cons_succ, List.getElem?_cons_zero]; rfl) (by kernel_rfl) (by kernel_rfl) (by kernel_rfl) (by exact fun _ _ _ h => h) (Or.inr ⟨by rfl, rfl⟩) (by assumption) ?_)
                (try go_frame)
                (refine wpAnyH_take (i := 18) (v := undef) (by simp only [List.getElem?_toArray, List.getElem?_cons_succ, List.getElem?_cons_zero]; rfl) (by kernel_rfl) (by kernel_rfl) (by kernel_rfl) (by exact fun _ _ _ h => h) (Or.inr ⟨by rfl, rfl⟩) (by assumption) ?_)
                (try go_frame)
                (refine wpAnyH_take (i := 19) (v := undef) (by simp only [List.getElem?_toArray, List.getElem?_cons_succ, List.getElem?_cons_zero]; rfl) (by kernel_rfl) (by kernel_rfl) (by kernel_rfl) (by exact fun _ _ _ h => h) (Or.inr ⟨by rfl, rfl⟩) (by assumption) ?_)
                (try go_frame)
                (refine wpAnyH_take (i := 20) (v := undef) (by simp only [List.getElem?_toArray, List.getElem?_cons_succ, List.getElem?_cons_zero]; rfl) (by kernel_rfl) (by kernel_rfl) (by kernel_rfl) (by exact fun _ _ _ h => h) (Or.inr ⟨by rfl, rfl⟩) (by assumption) ?_)
                (try go_frame)
                (refine wpAnyH_take (i := 21) (v := undef) (by simp only [List.getElem?_toArray, List.getElem?_cons_succ, List.getElem?_cons_zero]; rfl) (by kernel_rfl) (by kernel_rfl) (by kernel_rfl) (by exact fun _ _ _ h => h) (Or.inr ⟨by rfl, rfl⟩) (by assumption) ?_)
                (try go_frame)
                (refine wpAnyH_take (i := 22) (v := undef) (by simp only [List.getElem?_toArray, List.getElem?_cons_succ, List.getElem?_cons_zero]; rfl) (by kernel_rfl) (by kernel_rfl) (by kernel_rfl) (by exact fun _ _ _ h => h) (Or.inr ⟨by rfl, rfl⟩) (by assumption) ?_)
                (try go_frame)
                (refine wpAnyH_take (i := 23) (v := undef) (by simp only [List.getElem?_toArray, List.getElem?_cons_succ, List.getElem?_cons_zero]; rfl) (by kernel_rfl) (by kernel_rfl) (by kernel_rfl) (by exact fun _ _ _ h => h) (Or.inr ⟨by rfl, rfl⟩) (by assumption) ?_)
                (try go_frame)
                (refine wpAnyH_take (i := 24) (v := undef) (by simp only [List.getElem?_toArray, List.getElem?_cons_succ, List.getElem?_cons_zero]; rfl) (by kernel_rfl) (by kernel_rfl) (by kernel_rfl) (by exact fun _ _ _ h => h) (Or.inr ⟨by rfl, rfl⟩) (by assumption) ?_)
                (try go_frame)
                (refine wpAnyH_take (i := 25) (v := undef) (by simp only [List.getElem?_toArray, List.getElem?_cons_succ, List.getElem?_cons_zero]; rfl) (by kernel_rfl) (by kernel_rfl) (by kernel_rfl) (by exact fun _ _ _ h => h) (Or.inr ⟨by rfl, rfl⟩) (by assumption) ?_)
                (try go_frame)
                (refine wpAnyH_take (i := 26) (v := ?v26a) (by simp only [List.getElem?_toArray, List.getElem?_cons_succ, List.getElem?_cons_zero]; rfl) (by kernel_rfl) (by kernel_rfl) (by kernel_rfl) (by exact fun _ _ _ h => h) (Or.inl ⟨by rfl, ?y26a⟩) (by assumption) ?r26a)
                case y26a =>
                  intro w hSw
                  obtain ⟨⟨⟨hs0, hs1⟩, ⟨hs2, hs3⟩, hs4, hs5⟩, -⟩ := hSw
                  go_simp
                  all_goals (with_reducible rfl)
                (try go_frame)
                (refine wpAnyH_take (i := 27) (v := ?v27a) (by simp only [List.getElem?_toArray, List.getElem?_cons_succ, List.getElem?_cons_zero]; rfl) (by kernel_rfl) (by kernel_rfl) (by kernel_rfl) (by exact fun _ _ _ h => h) (Or.inl ⟨by rfl, ?y27a⟩) (by assumption) ?r27a)
                case y27a =>
                  intro w hSw
                  obtain ⟨⟨⟨hs0, hs1⟩, ⟨hs2, hs3⟩, hs4, hs5⟩, -⟩ := hSw
                  go_simp
                  all_goals (with_reducible rfl)
                (try go_frame)
                (refine wpAnyH_take (i := 28) (v := undef) (by simp only [List.getElem?_toArray, List.getElem?_cons_succ, List.getElem?_cons_zero]; rfl) (by kernel_rfl) (by kernel_rfl) (by kernel_rfl) (by exact fun _ _ _ h => h) (Or.inr ⟨by rfl, rfl⟩) (by assumption) ?_)
                (try go_frame)
                (refine wpAnyH_take (i := 29) (v := undef) (by simp only [List.getElem?_toArray, List.getElem?_cons_succ, List.getElem?_cons_zero]; rfl) (by kernel_rfl) (by kernel_rfl) (by kernel_rfl) (by exact fun _ _ _ h => h) (Or.inr ⟨by rfl, rfl⟩) (by assumption) ?_)
                (try go_frame)
                (refine wpAnyH_take (i := 30) (v := undef) (by simp only [List.getElem?_toArray, List.getElem?_cons_succ, List.getElem?_cons_zero]; rfl) (by kernel_rfl) (by kernel_rfl) (by kernel_rfl) (by exact fun _ _ _ h => h) (Or.inr ⟨by rfl, rfl⟩) (by assumption) ?_)
                (try go_frame)
                (refine wpAnyH_take (i := 31) (v := undef) (by simp only [List.getElem?_toArray, List.getElem?_cons_succ, List.getElem?_cons_zero]; rfl) (by kernel_rfl) (by kernel_rfl) (by kernel_rfl) (by exact fun _ _ _ h => h) (Or.inr ⟨by rfl, rfl⟩) (by assumption) ?_)
                (try go_frame)
                (refine wpAnyH_take (i := 32) (v := undef) (by simp only [List.getElem?_toArray, List.getElem?_cons_succ, List.getElem?_cons_zero]; rfl) (by kernel_rfl) (by kernel_rfl) (by kernel_rfl) (by exact fun _ _ _ h => h) (Or.inr ⟨by rfl, rfl⟩) (by assumption) ?_)
                (try go_frame)
                (refine wpAnyH_take (i := 33) (v := undef) (by simp only [List.getElem?_toArray, List.getElem?_cons_succ, List.getElem?_cons_zero]; rfl) (by kernel_rfl) (by kernel_rfl) (by kernel_rfl) (by exact fun _ _ _ h => h) (Or.inr ⟨by rfl, rfl⟩) (by assumption) ?_)
                (try go_frame)
                (refine wpAnyH_take (i := 34) (v := undef) (by simp only [List.getElem?_toArray, List.getElem?_cons_succ, List.getElem?_cons_zero]; rfl) (by kernel_rfl) (by kernel_rfl) (by kernel_rfl) (by exact fun _ _ _ h => h) (Or.inr ⟨by rfl, rfl⟩) (by assumption) ?_)
                (try go_frame)
                (refine wpAnyH_take (i := 35) (v := undef) (by simp only [List.getElem?_toArray, List.getElem?_cons_succ, List.getElem?_cons_zero]; rfl) (by kernel_rfl) (by kernel_rfl) (by kernel_rfl) (by exact fun _ _ _ h => h) (Or.inr ⟨by rfl, rfl⟩) (by assumption) ?_)
                (try go_frame)
                (refine wpAnyH_take (i := 36) (v := undef) (by simp only [List.getElem?_toArray, List.getElem?_cons_succ, List.getElem?_cons_zero]; rfl) (by kernel_rfl) (by kernel_rfl) (by kernel_rfl) (by exact fun _ _ _ h => h) (Or.inr ⟨by rfl, rfl⟩) (by assumption) ?_)
                (try go_frame)
                (refine wpAnyH_take (i := 37) (v := undef) (by simp only [List.getElem?_toArray, List.getElem?_cons_succ, List.getElem?_cons_zero]; rfl) (by kernel_rfl) (by kernel_rfl) (by kernel_rfl) (by exact fun _ _ _ h => h) (Or.inr ⟨by rfl, rfl⟩) (by assumption) ?_)
                (try go_frame)
                (refine wpAnyH_take (i := 38) (v := undef) (by simp only [List.getElem?_toArray, List.getElem?_cons_succ, List.getElem?_cons_zero]; rfl) (by kernel_rfl) (by kernel_rfl) (by kernel_rfl) (by exact fun _ _ _ h => h) (Or.inr ⟨by rfl, rfl⟩) (by assumption) ?_)
                (try go_frame)
                (refine wpAnyH_take (i := 39) (v := ?v39a) (by simp only [List.getElem?_toArray, List.getElem?_cons_succ, List.getElem?_cons_zero]; rfl) (by kernel_rfl) (by kernel_rfl) (by kernel_rfl) (by exact fun _ _ _ h => h) (Or.inl ⟨by rfl, ?y39a⟩) (by assumption) ?r39a)
                case y39a =>
                  intro w hSw
                  obtain ⟨⟨⟨hs0, hs1⟩, ⟨hs2, hs3⟩, hs4, hs5⟩, -⟩ := hSw
                  go_simp
                  all_goals (with_reducible rfl)
                (try go_frame)
                refine wpAnyH_done (by kernel_rfl) ?_ _
                go_wp2
                go_ret
                exact ⟨by rw [HF2.out]; rfl, X0W.out.trans (And.right (show HeldXS w1.heap.size w2.heap.size gr o2 (.slice a1 nE c1) (.slice a2 nE c2) (.slice b1 nF d1) (.slice b2 nF d2) (.int .i64 x0) (.int .i64 x1) wr _ by assumption))⟩
              · rw [hi0] at CIa
                cases hi1 : inS nF (nth (rowI L k) 1)
                · rw [hi1] at CIb
                  have HF2 := Lib.hid (HBad1.out (.inl (by rw [HRB.out, hi0, hi1]; rfl)))
                  clear hrb HRB hi0 hi1 HBad1 HBad HAll1 HOk hl
                  generalize nth (rowI L k) 0 = x0 at *
                  generalize nth (rowI L k) 1 = x1 at *
                  go_wp2
                  have K0b : HeldXS w1.heap.size w2.heap.size gr o2 (.slice a1 nE c1) (.slice a2 nE c2) (.slice b1 nF d1) (.slice b2 nF d2) (.int .i64 x0) (.int .i64 x1) wr wr.drew := ⟨H1.out.ext (by (repeat (first | exact Ext.refl _ | assumption | refine Ext.alloc ?_ _ | refine Ext.drewN ?_ _ | refine Ext.drew ?_))), by (repeat (first | exact Ext.refl _ | assumption | refine Ext.alloc ?_ _ | refine Ext.drewN ?_ _ | refine Ext.drew ?_))⟩
                  refine wp_region_held_drew (S := HeldXS w1.heap.size w2.heap.size gr o2 (.slice a1 nE c1) (.slice a2 nE c2) (.slice b1 nF d1) (.slice b2 nF d2) (.int .i64 x0) (.int .i64 x1) wr) (by kernel_rfl) K0b (fun hHeld => ?_)
                  (refine wpAnyH_take (i := 0) (v := ?v0b) (by simp only [List.getElem?_toArray, List.getElem?_cons_zero]; rfl) (by kernel_rfl) (by kernel_rfl) (by kernel_rfl) (by exact fun _ _ _ h => h) (Or.inl ⟨by rfl, ?y0b⟩) (by assumption) ?r0b)
                  case y0b =>
                    intro w hSw
                    obtain ⟨⟨⟨hs0, hs1⟩, ⟨hs2, hs3⟩, hs4, hs5⟩, -⟩ := hSw
                    go_simp
                    all_goals (with_reducible rfl)
                  (try go_frame)
                  (refine wpAnyH_take (i := 1) (v := ?v1b) (by simp only [List.getElem?_toArray, List.getElem?_cons_succ, List.getElem?_cons_zero]; rfl) (by kernel_rfl) (by kernel_rfl) (by kernel_rfl) (by exact fun _ _ _ h => h) (Or.inl ⟨by rfl, ?y1b⟩) (by assumption) ?r1b)
                  case y1b =>
                    intro w hSw
                    obtain ⟨⟨⟨hs0, hs1⟩, ⟨hs2, hs3⟩, hs4, hs5⟩, -⟩ := hSw
                    go_simp
                    all_goals (with_reducible rfl)
                  (try go_frame)
                  (refine wpAnyH_take (i := 2) (v := ?v2b) (by simp only [List.getElem?_toArray, List.getElem?_cons_succ, List.getElem?_cons_zero]; rfl) (by kernel_rfl) (by kernel_rfl) (by kernel_rfl) (by exact fun _ _ _ h => h) (Or.inl ⟨by rfl, ?y2b⟩) (by assumption) ?r2b)
                  case y2b =>
                    intro w hSw
                    obtain ⟨⟨⟨hs0, hs1⟩, ⟨hs2, hs3⟩, hs4, hs5⟩, -⟩ := hSw
                    go_simp
                    all_goals (with_reducible rfl)
                  (try go_frame)
                  (refine wpAnyH_take (i := 3) (v := ?v3b) (by simp only [List.getElem?_toArray, List.getElem?_cons_succ, List.getElem?_cons_zero]; rfl) (by kernel_rfl) (by kernel_rfl) (by kernel_rfl) (by exact fun _ _ _ h => h) (Or.inl ⟨by rfl, ?y3b⟩) (by assumption) ?r3b)
                  case y3b =>
                    intro w hSw
                    obtain ⟨⟨⟨hs0, hs1⟩, ⟨hs2, hs3⟩, hs4, hs5⟩, -⟩ := hSw
                    go_simp
                    all_goals (with_reducible rfl)
                  (try go_frame)
                  (refine wpAnyH_take (i := 4) (v := ?v4b) (by simp only [List.getElem?_toArray, List.getElem?_cons_succ, List.getElem?_cons_zero]; rfl) (by kernel_rfl) (by kernel_rfl) (by kernel_rfl) (by exact fun _ _ _ h => h) (Or.inl ⟨by rfl, ?y4b⟩) (by assumption) ?r4b)
                  case y4b =>
                    intro w hSw
                    obtain ⟨⟨⟨hs0, hs1⟩, ⟨hs2, hs3⟩, hs4, hs5⟩, -⟩ := hSw
                    go_simp
                    all_goals (with_reducible rfl)
                  (try go_frame)
                  (refine wpAnyH_take (i := 5) (v := ?v5b) (by simp only [List.getElem?_toArray, List.getElem?_cons_succ, List.getElem?_cons_zero]; rfl) (by kernel_rfl) (by kernel_rfl) (by kernel_rfl) (by exact fun _ _ _ h => h) (Or.inl ⟨by rfl, ?y5b⟩) (by assumption) ?r5b)
                  case y5b =>
                    intro w hSw
                    obtain ⟨⟨⟨hs0, hs1⟩, ⟨hs2, hs3⟩, hs4, hs5⟩, -⟩ := hSw
                    go_simp
                    all_goals (with_reducible rfl)
                  (try go_frame)
                  (refine wpAnyH_take (i := 6) (v := ?v6b) (by simp only [List.getElem?_toArray, List.getElem?_cons_succ, List.getElem?_cons_zero]; rfl) (by kernel_rfl) (by kernel_rfl) (by kernel_rfl) (by exact fun _ _ _ h => h) (Or.inl ⟨by rfl, ?y6b⟩) (by assumption) ?r6b)
                  case y6b =>
                    intro w hSw
                    obtain ⟨⟨⟨hs0, hs1⟩, ⟨hs2, hs3⟩, hs4, hs5⟩, -⟩ := hSw
                    go_simp
                    all_goals (with_reducible rfl)
                  (try go_frame)
                  (refine wpAnyH_take (i := 7) (v := ?v7b) (by simp only [List.getElem?_toArray, List.getElem?_cons_succ, List.getElem?_cons_zero]; rfl) (by kernel_rfl) (by kernel_rfl) (by kernel_rfl) (by exact fun _ _ _ h => h) (Or.inl ⟨by rfl, ?y7b⟩) (by assumption) ?r7b)
                  case y7b =>
                    intro w hSw
                    obtain ⟨⟨⟨hs0, hs1⟩, ⟨hs2, hs3⟩, hs4, hs5⟩, -⟩ := hSw
                    go_simp
                    all_goals (with_reducible rfl)
                  (try go_frame)
                  (refine wpAnyH_take (i := 8) (v := ?v8b) (by simp only [List.getElem?_toArray, List.getElem?_cons_succ, List.getElem?_cons_zero]; rfl) (by kernel_rfl) (by kernel_rfl) (by kernel_rfl) (by exact fun _ _ _ h => h) (Or.inl ⟨by rfl, ?y8b⟩) (by assumption) ?r8b)
                  case y8b =>
                    intro w hSw
                    obtain ⟨⟨⟨hs0, hs1⟩, ⟨hs2, hs3⟩, hs4, hs5⟩, -⟩ := hSw
                    go_simp
                    all_goals (with_reducible rfl)
                  (try go_frame)
                  (refine wpAnyH_take (i := 9) (v := ?v9b) (by simp only [List.getElem?_toArray, List.getElem?_cons_succ, List.getElem?_cons_zero]; rfl) (by kernel_rfl) (by kernel_rfl) (by kernel_rfl) (by exact fun _ _ _ h => h) (Or.inl ⟨by rfl, ?y9b⟩) (by assumption) ?r9b)
                  case y9b =>
                    intro w hSw
                    obtain ⟨⟨⟨hs0, hs1⟩, ⟨hs2, hs3⟩, hs4, hs5⟩, -⟩ := hSw
                    go_simp
                    all_goals (with_reducible rfl)
                  (try go_frame)
                  (refine wpAnyH_take (i := 10) (v := ?v10b) (by simp only [List.getElem?_toArray, List.getElem?_cons_succ, List.getElem?_cons_zero]; rfl) (by kernel_rfl) (by kernel_rfl) (by kernel_rfl) (by exact fun _ _ _ h => h) (Or.inl ⟨by rfl, ?y10b⟩) (by assumption) ?r10b)
                  case y10b =>
                    intro w hSw
                    obtain ⟨⟨⟨hs0, hs1⟩, ⟨hs2, hs3⟩, hs4, hs5⟩, -⟩ := hSw
                    go_simp
                    all_goals (with_reducible rfl)
                  (try go_frame)
                  (refine wpAnyH_take (i := 11) (v := ?v11b) (by simp only [List.getElem?_toArray, List.getElem?_cons_succ, List.getElem?_cons_zero]; rfl) (by kernel_rfl) (by kernel_rfl) (by kernel_rfl) (by exact fun _ _ _ h => h) (Or.inl ⟨by rfl, ?y11b⟩) (by assumption) ?r11b)
                  case y11b =>
                    intro w hSw
                    obtain ⟨⟨⟨hs0, hs1⟩, ⟨hs2, hs3⟩, hs4, hs5⟩, -⟩ := hSw
                    go_simp
                    all_goals (with_reducible rfl)
                  (try go_frame)
                  refine wpAnyH_ready (rs := [12]) (by kernel_rfl) (by simp) ?_
                  refine AllReadyH.cons (by simp only [List.getElem?_toArray, List.getElem?_cons_succ, List.getElem?_cons_zero]; rfl) (fun K hK => ?_) AllReadyH.nil
                  go_simp
                  (go_at_call 61; with_reducible refine (CIa.out _).mono ?_; rintro e wk ⟨rfl, rfl⟩)
                  refine hK.out _ _ ?_ (fun hHeld => ?_)
                  · assumption
                  clear hK K
                  (try go_frame)
                  (refine wpAnyH_take (i := 13) (v := ?v13b) (by simp only [List.getElem?_toArray, List.getElem?_cons_succ, List.getElem?_cons_zero]; rfl) (by kernel_rfl) (by kernel_rfl) (by kernel_rfl) (by exact fun _ _ _ h => h) (Or.inl ⟨by rfl, ?y13b⟩) (by assumption) ?r13b)
                  case y13b =>
                    intro w hSw
                    obtain ⟨⟨⟨hs0, hs1⟩, ⟨hs2, hs3⟩, hs4, hs5⟩, -⟩ := hSw
                    go_simp
                    all_goals (with_reducible rfl)
                  (try go_frame)
                  (refine wpAnyH_take (i := 14) (v := ?v14b) (by simp only [List.getElem?_toArray, List.getElem?_cons_succ, List.getElem?_cons_zero]; rfl) (by kernel_rfl) (by kernel_rfl) (by kernel_rfl) (by exact fun _ _ _ h => h) (Or.inl ⟨by rfl, ?y14b⟩) (by assumption) ?r14b)
                  case y14b =>
                    intro w hSw
                    obtain ⟨⟨⟨hs0, hs1⟩, ⟨hs2, hs3⟩, hs4, hs5⟩, -⟩ := hSw
                    go_simp
                    all_goals (with_reducible rfl)
                  (try go_frame)
                  (refine wpAnyH_take (i := 15) (v := ?v15b) (by simp only [List.getElem?_toArray, List.getElem?_cons_succ, List.getElem?_cons_zero]; rfl) (by kernel_rfl) (by kernel_rfl) (by kernel_rfl) (by exact fun _ _ _ h => h) (Or.inl ⟨by rfl, ?y15b⟩) (by assumption) ?r15b)
                  case y15b =>
                    intro w hSw
                    obtain ⟨⟨⟨hs0, hs1⟩, ⟨hs2, hs3⟩, hs4, hs5⟩, -⟩ := hSw
                    go_simp
                    all_goals (with_reducible rfl)
                  (try go_frame)
                  (refine wpAnyH_take (i := 16) (v := ?v16b) (by simp only [List.getElem?_toArray, List.getElem?_cons_succ, List.getElem?_cons_zero]; rfl) (by kernel_rfl) (by kernel_rfl) (by kernel_rfl) (by exact fun _ _ _ h => h) (Or.inl ⟨by rfl, ?y16b⟩) (by assumption) ?r16b)
                  case y16b =>
                    intro w hSw
                    obtain ⟨⟨⟨hs0, hs1⟩, ⟨hs2, hs3⟩, hs4, hs5⟩, -⟩ := hSw
                    go_simp
                    all_goals (with_reducible rfl)
                  (try go_frame)
                  (refine wpAnyH_take (i := 17) (v := ?v17b) (by simp only [List.getElem?_toArray, List.getElem?_cons_succ, List.getElem?_cons_zero]; rfl) (by kernel_rfl) (by kernel_rfl) (by kernel_rfl) (by exact fun _ _ _ h => h) (Or.inl ⟨by rfl, ?y17b⟩) (by assumption) ?r17b)
                  case y17b =>
                    intro w hSw
                    obtain ⟨⟨⟨hs0, hs1⟩, ⟨hs2, hs3⟩, hs4, hs5⟩, -⟩ := hSw
                    go_simp
                    all_goals (with_reducible rfl)
                  (try go_frame)
                  (refine wpAnyH_take (i := 18) (v := ?v18b) (by simp only [List.getElem?_toArray, List.getElem?_cons_succ, List.getElem?_cons_zero]; rfl) (by kernel_rfl) (by kernel_rfl) (by kernel_rfl) (by exact fun _ _ _ h => h) (Or.inl ⟨by rfl, ?y18b⟩) (by assumption) ?r18b)
                  case y18b =>
                    intro w hSw
                    obtain ⟨⟨⟨hs0, hs1⟩, ⟨hs2, hs3⟩, hs4, hs5⟩, -⟩ := hSw
                    go_simp
                    all_goals (with_reducible rfl)
                  (try go_frame)
                  (refine wpAnyH_take (i := 19) (v := ?v19b) (by simp only [List.getElem?_toArray, List.getElem?_cons_succ, List.getElem?_cons_zero]; rfl) (by kernel_rfl) (by kernel_rfl) (by kernel_rfl) (by exact fun _ _ _ h => h) (Or.inl ⟨by rfl, ?y19b⟩) (by assumption) ?r19b)
                  case y19b =>
                    intro w hSw
                    obtain ⟨⟨⟨hs0, hs1⟩, ⟨hs2, hs3⟩, hs4, hs5⟩, -⟩ := hSw
                    go_simp
                    all_goals (with_reducible rfl)
                  (try go_frame)
                  (refine wpAnyH_take (i := 20) (v := ?v20b) (by simp only [List.getElem?_toArray, List.getElem?_cons_succ, List.getElem?_cons_zero]; rfl) (by kernel_rfl) (by kernel_rfl) (by kernel_rfl) (by exact fun _ _ _ h => h) (Or.inl ⟨by rfl, ?y20b⟩) (by assumption) ?r20b)
                  case y20b =>
                    intro w hSw
                    obtain ⟨⟨⟨hs0, hs1⟩, ⟨hs2, hs3⟩, hs4, hs5⟩, -⟩ := hSw
                    go_simp
                    all_goals (with_reducible rfl)
                  (try go_frame)
                  (refine wpAnyH_take (i := 21) (v := ?v21b) (by simp only [List.getElem?_toArray, List.getElem?_cons_succ, List.getElem?_cons_zero]; rfl) (by kernel_rfl) (by kernel_rfl) (by kernel_rfl) (by exact fun _ _ _ h => h) (Or.inl ⟨by rfl, ?y21b⟩) (by assumption) ?r21b)
                  case y21b =>
                    intro w hSw
                    obtain ⟨⟨⟨hs0, hs1⟩, ⟨hs2, hs3⟩, hs4, hs5⟩, -⟩ := hSw
                    go_simp
                    all_goals (with_reducible rfl)
                  (try go_frame)
                  (refine wpAnyH_take (i := 22) (v := ?v22b) (by simp only [List.getElem?_toArray, List.getElem?_cons_succ, List.getElem?_cons_zero]; rfl) (by kernel_rfl) (by kernel_rfl) (by kernel_rfl) (by exact fun _ _ _ h => h) (Or.inl ⟨by rfl, ?y22b⟩) (by assumption) ?r22b)
                  case y22b =>
                    intro w hSw
                    obtain ⟨⟨⟨hs0, hs1⟩, ⟨hs2, hs3⟩, hs4, hs5⟩, -⟩ := hSw
                    go_simp
                    all_goals (with_reducible rfl)
                  (try go_frame)
                  (refine wpAnyH_take (i := 23) (v := ?v23b) (by simp only [List.getElem?_toArray, List.getElem?_cons_succ, List.getElem?_cons_zero]; rfl) (by kernel_rfl) (by kernel_rfl) (by kernel_rfl) (by exact fun _ _ _ h => h) (Or.inl ⟨by rfl, ?y23b⟩) (by assumption) ?r23b)
                  case y23b =>
                    intro w hSw
                    obtain ⟨⟨⟨hs0, hs1⟩, ⟨hs2, hs3⟩, hs4, hs5⟩, -⟩ := hSw
                    go_simp
                    all_goals (with_reducible rfl)
                  (try go_frame)
                  refine wpAnyH_ready (rs := [24]) (by kernel_rfl) (by simp) ?_
                  refine AllReadyH.cons (by simp only [List.getElem?_toArray, List.getElem?_cons_succ, List.getElem?_cons_zero]; rfl) (fun K hK => ?_) AllReadyH.nil
                  go_simp
                  (go_at_call 61; with_reducible refine (CIb.out _).mono ?_; rintro e wk ⟨rfl, rfl⟩)
                  refine hK.out _ _ ?_ (fun hHeld => ?_)
                  · assumption
                  clear hK K
                  (try go_frame)
                  (refine wpAnyH_take (i := 25) (v := ?v25b) (by simp only [List.getElem?_toArray, List.getElem?_cons_succ, List.getElem?_cons_zero]; rfl) (by kernel_rfl) (by kernel_rfl) (by kernel_rfl) (by exact fun _ _ _ h => h) (Or.inl ⟨by rfl, ?y25b⟩) (by assumption) ?r25b)
                  case y25b =>
                    intro w hSw
                    obtain ⟨⟨⟨hs0, hs1⟩, ⟨hs2, hs3⟩, hs4, hs5⟩, -⟩ := hSw
                    go_simp
                    all_goals (with_reducible rfl)
                  (try go_frame)
                  (refine wpAnyH_take (i := 26) (v := ?v26b) (by simp only [List.getElem?_toArray, List.getElem?_cons_succ, List.getElem?_cons_zero]; rfl) (by kernel_rfl) (by kernel_rfl) (by kernel_rfl) (by exact fun _ _ _ h => h) (Or.inl ⟨by rfl, ?y26b⟩) (by assumption) ?r26b)
                  case y26b =>
                    intro w hSw
                    obtain ⟨⟨⟨hs0, hs1⟩, ⟨hs2, hs3⟩, hs4, hs5⟩, -⟩ := hSw
                    go_simp
                    all_goals (with_reducible rfl)
                  (try go_frame)
                  (refine wpAnyH_take (i := 27) (v := ?v27b) (by simp only [List.getElem?_toArray, List.getElem?_cons_succ, List.getElem?_cons_zero]; rfl) (by kernel_rfl) (by kernel_rfl) (by kernel_rfl) (by exact fun _ _ _ h => h) (Or.inl ⟨by rfl, ?y27b⟩) (by assumption) ?r27b)
                  case y27b =>
                    intro w hSw
                    obtain ⟨⟨⟨hs0, hs1⟩, ⟨hs2, hs3⟩, hs4, hs5⟩, -⟩ := hSw
                    go_simp
                    all_goals (with_reducible rfl)
                  (try go_frame)
                  (refine wpAnyH_take (i := 28) (v := undef) (by simp only [List.getElem?_toArray, List.getElem?_cons_succ, List.getElem?_cons_zero]; rfl) (by kernel_rfl) (by kernel_rfl) (by kernel_rfl) (by exact fun _ _ _ h => h) (Or.inr ⟨by rfl, rfl⟩) (by assumption) ?_)
                  (try go_frame)
                  (refine wpAnyH_take (i := 29) (v := undef) (by simp only [List.getElem?_toArray, List.getElem?_cons_succ, List.getElem?_cons_zero]; rfl) (by kernel_rfl) (by kernel_rfl) (by kernel_rfl) (by exact fun _ _ _ h => h) (Or.inr ⟨by rfl, rfl⟩) (by assumption) ?_)
                  (try go_frame)
                  (refine wpAnyH_take (i := 30) (v := undef) (by simp only [List.getElem?_toArray, List.getElem?_cons_succ, List.getElem?_cons_zero]; rfl) (by kernel_rfl) (by kernel_rfl) (by kernel_rfl) (by exact fun _ _ _ h => h) (Or.inr ⟨by rfl, rfl⟩) (by assumption) ?_)
                  (try go_frame)
                  (refine wpAnyH_take (i := 31) (v := undef) (by simp only [List.getElem?_toArray, List.getElem?_cons_succ, List.getElem?_cons_zero]; rfl) (by kernel_rfl) (by kernel_rfl) (by kernel_rfl) (by exact fun _ _ _ h => h) (Or.inr ⟨by rfl, rfl⟩) (by assumption) ?_)
                  (try go_frame)
                  (refine wpAnyH_take (i := 32) (v := undef) (by simp only [List.getElem?_toArray, List.getElem?_cons_succ, List.getElem?_cons_zero]; rfl) (by kernel_rfl) (by kernel_rfl) (by kernel_rfl) (by exact fun _ _ _ h => h) (Or.inr ⟨by rfl, rfl⟩) (by assumption) ?_)
                  (try go_frame)
                  (refine wpAnyH_take (i := 33) (v := undef) (by simp only [List.getElem?_toArray, List.getElem?_cons_succ, List.getElem?_cons_zero]; rfl) (by kernel_rfl) (by kernel_rfl) (by kernel_rfl) (by exact fun _ _ _ h => h) (Or.inr ⟨by rfl, rfl⟩) (by assumption) ?_)
                  (try go_frame)
                  (refine wpAnyH_take (i := 34) (v := undef) (by simp only [List.getElem?_toArray, List.getElem?_cons_succ, List.getElem?_cons_zero]; rfl) (by kernel_rfl) (by kernel_rfl) (by kernel_rfl) (by exact fun _ _ _ h => h) (Or.inr ⟨by rfl, rfl⟩) (by assumption) ?_)
                  (try go_frame)
                  (refine wpAnyH_take (i := 35) (v := undef) (by simp only [List.getElem?_toArray, List.getElem?_cons_succ, List.getElem?_cons_zero]; rfl) (by kernel_rfl) (by kernel_rfl) (by kernel_rfl) (by exact fun _ _ _ h => h) (Or.inr ⟨by rfl, rfl⟩) (by assumption) ?_)
                  (try go_frame)
                  (refine wpAnyH_take (i := 36) (v := undef) (by simp only [List.getElem?_toArray, List.getElem?_cons_succ, List.getElem?_cons_zero]; rfl) (by kernel_rfl) (by kernel_rfl) (by kernel_rfl) (by exact fun _ _ _ h => h) (Or.inr ⟨by rfl, rfl⟩) (by assumption) ?_)
                  (try go_frame)
                  (refine wpAnyH_take (i := 37) (v := undef) (by simp only [List.getElem?_toArray, List.getElem?_cons_succ, List.getElem?_cons_zero]; rfl) (by kernel_rfl) (by kernel_rfl) (by kernel_rfl) (by exact fun _ _ _ h => h) (Or.inr ⟨by rfl, rfl⟩) (by assumption) ?_)
                  (try go_frame)
                  (refine wpAnyH_take (i := 38) (v := undef) (by simp only [List.getElem?_toArray, List.getElem?_cons_succ, List.getElem?_cons_zero]; rfl) (by kernel_rfl) (by kernel_rfl) (by kernel_rfl) (by exact fun _ _ _ h => h) (Or.inr ⟨by rfl, rfl⟩) (by assumption) ?_)
                  (try go_frame)
                  (refine wpAnyH_take (i := 39) (v := ?v39b) (by simp only [List.getElem?_toArray, List.getElem?_cons_succ, List.getElem?_cons_zero]; rfl) (by kernel_rfl) (by kernel_rfl) (by kernel_rfl) (by exact fun _ _ _ h => h) (Or.inl ⟨by rfl, ?y39b⟩) (by assumption) ?r39b)
                  case y39b =>
                    intro w hSw
                    obtain ⟨⟨⟨hs0, hs1⟩, ⟨hs2, hs3⟩, hs4, hs5⟩, -⟩ := hSw
                    go_simp
                    all_goals (with_reducible rfl)
                  (try go_frame)
                  refine wpAnyH_done (by kernel_rfl) ?_ _
                  go_wp2
                  go_ret
                  exact ⟨by rw [HF2.out]; rfl, X0W.out.trans (And.right (show HeldXS w1.heap.size w2.heap.size gr o2 (.slice a1 nE c1) (.slice a2 nE c2) (.slice b1 nF d1) (.slice b2 nF d2) (.int .i64 x0) (.int .i64 x1) wr _ by assumption))⟩
                · rw [hi1] at CIb
                  have hrow : rowB nE nF (rowI L k) = true := by rw [HRB.out, hi0, hi1]; rfl
                  obtain ⟨hrp, hlt0, hlt1⟩ := rowB_pair hrow
                  have v0 : nth (rowI L k) 0 = ((natAt (rowI L k) 0 : Nat) : Int) := by
                    unfold inS at hi0
                    rw [decide_eq_true_eq] at hi0
                    unfold natAt; omega
                  have v1 : nth (rowI L k) 1 = ((natAt (rowI L k) 1 : Nat) : Int) := by
                    unfold inS at hi1
                    rw [decide_eq_true_eq] at hi1
                    unfold natAt; omega
                  have hst : stepB E F2 N M L (rowI L k) = (decide (img E (natAt (rowI L k) 0) = img F2 (natAt (rowI L k) 1)) && movB N M L (natAt (rowI L k) 0, natAt (rowI L k) 1) 12) := rfl
                  have HST := Lib.hid hst
                  have HROW := Lib.hid hrow
                  rw [v0] at CIa H1
                  rw [v1] at CIb H1
                  have hpA' : 2 ^ nE ≤ 1024 := hpA
                  have hpB' : 2 ^ nF ≤ 1024 := hpB
                  have EA : Hid (∀ w', Ext wr w' → Calls Tryz.prog 62 #[autV a1 nE c1 a2 nE c2, .int .i64 (natAt (rowI L k) 0 : Nat)] w' fun r w'' => r = .returned (.int .i64 (img E (natAt (rowI L k) 0) : Nat)) ∧ Ext w' w'') := fun w' x => SA2.out w' _ (X2W.out.trans x) (by omega)
                  have EB : Hid (∀ w', Ext wr w' → Calls Tryz.prog 62 #[autV b1 nF d1 b2 nF d2, .int .i64 (natAt (rowI L k) 1 : Nat)] w' fun r w'' => r = .returned (.int .i64 (img F2 (natAt (rowI L k) 1) : Nat)) ∧ Ext w' w'') := fun w' x => SB2.out w' _ (X2W.out.trans x) (by omega)
                  clear hrb HRB hi0 hi1 hl hst hrow hrp v0 v1
                  generalize natAt (rowI L k) 0 = p at *
                  generalize natAt (rowI L k) 1 = q at *
                  by_cases hie : img E p = img F2 q
                  · have hie' : ((((img E p : Nat) : Int)) != ((img F2 q : Nat) : Int)) = false := by rw [hie]; simp
                    have hie2 : ((img E p : Nat) : Int) = ((img F2 q : Nat) : Int) := by rw [hie]
                    have HIE := Lib.hid hie
                    clear hie
                    generalize img E p = u at *
                    generalize img F2 q = v at *
                    obtain ⟨wo, hwo⟩ : ∃ wo, wo = wr := ⟨_, rfl⟩
                    subst hwo
                    go_wp2
                    have K0e : HeldXS w1.heap.size w2.heap.size gr o2 (.slice a1 nE c1) (.slice a2 nE c2) (.slice b1 nF d1) (.slice b2 nF d2) (.int .i64 (p : Nat)) (.int .i64 (q : Nat)) wo wo.drew := ⟨H1.out.ext (by (repeat (first | exact Ext.refl _ | assumption | refine Ext.alloc ?_ _ | refine Ext.drewN ?_ _ | refine Ext.drew ?_))), by (repeat (first | exact Ext.refl _ | assumption | refine Ext.alloc ?_ _ | refine Ext.drewN ?_ _ | refine Ext.drew ?_))⟩
                    refine wp_region_held_drew (S := HeldXS w1.heap.size w2.heap.size gr o2 (.slice a1 nE c1) (.slice a2 nE c2) (.slice b1 nF d1) (.slice b2 nF d2) (.int .i64 (p : Nat)) (.int .i64 (q : Nat)) wo) (by kernel_rfl) K0e (fun hHeld => ?_)
                    (refine wpAnyH_take (i := 0) (v := ?v0e) (by simp only [List.getElem?_toArray, List.getElem?_cons_zero]; rfl) (by kernel_rfl) (by kernel_rfl) (by kernel_rfl) (by exact fun _ _ _ h => h) (Or.inl ⟨by rfl, ?y0e⟩) (by assumption) ?r0e)
                    case y0e =>
                      intro w hSw
                      obtain ⟨⟨⟨hs0, hs1⟩, ⟨hs2, hs3⟩, hs4, hs5⟩, -⟩ := hSw
                      go_simp
                      all_goals (with_reducible rfl)
                    (try go_frame)
                    (refine wpAnyH_take (i := 1) (v := ?v1e) (by simp only [List.getElem?_toArray, List.getElem?_cons_succ, List.getElem?_cons_zero]; rfl) (by kernel_rfl) (by kernel_rfl) (by kernel_rfl) (by exact fun _ _ _ h => h) (Or.inl ⟨by rfl, ?y1e⟩) (by assumption) ?r1e)
                    case y1e =>
                      intro w hSw
                      obtain ⟨⟨⟨hs0, hs1⟩, ⟨hs2, hs3⟩, hs4, hs5⟩, -⟩ := hSw
                      go_simp
                      all_goals (with_reducible rfl)
                    (try go_frame)
                    (refine wpAnyH_take (i := 2) (v := ?v2e) (by simp only [List.getElem?_toArray, List.getElem?_cons_succ, List.getElem?_cons_zero]; rfl) (by kernel_rfl) (by kernel_rfl) (by kernel_rfl) (by exact fun _ _ _ h => h) (Or.inl ⟨by rfl, ?y2e⟩) (by assumption) ?r2e)
                    case y2e =>
                      intro w hSw
                      obtain ⟨⟨⟨hs0, hs1⟩, ⟨hs2, hs3⟩, hs4, hs5⟩, -⟩ := hSw
                      go_simp
                      all_goals (with_reducible rfl)
                    (try go_frame)
                    (refine wpAnyH_take (i := 3) (v := ?v3e) (by simp only [List.getElem?_toArray, List.getElem?_cons_succ, List.getElem?_cons_zero]; rfl) (by kernel_rfl) (by kernel_rfl) (by kernel_rfl) (by exact fun _ _ _ h => h) (Or.inl ⟨by rfl, ?y3e⟩) (by assumption) ?r3e)
                    case y3e =>
                      intro w hSw
                      obtain ⟨⟨⟨hs0, hs1⟩, ⟨hs2, hs3⟩, hs4, hs5⟩, -⟩ := hSw
                      go_simp
                      all_goals (with_reducible rfl)
                    (try go_frame)
                    (refine wpAnyH_take (i := 4) (v := ?v4e) (by simp only [List.getElem?_toArray, List.getElem?_cons_succ, List.getElem?_cons_zero]; rfl) (by kernel_rfl) (by kernel_rfl) (by kernel_rfl) (by exact fun _ _ _ h => h) (Or.inl ⟨by rfl, ?y4e⟩) (by assumption) ?r4e)
                    case y4e =>
                      intro w hSw
                      obtain ⟨⟨⟨hs0, hs1⟩, ⟨hs2, hs3⟩, hs4, hs5⟩, -⟩ := hSw
                      go_simp
                      all_goals (with_reducible rfl)
                    (try go_frame)
                    (refine wpAnyH_take (i := 5) (v := ?v5e) (by simp only [List.getElem?_toArray, List.getElem?_cons_succ, List.getElem?_cons_zero]; rfl) (by kernel_rfl) (by kernel_rfl) (by kernel_rfl) (by exact fun _ _ _ h => h) (Or.inl ⟨by rfl, ?y5e⟩) (by assumption) ?r5e)
                    case y5e =>
                      intro w hSw
                      obtain ⟨⟨⟨hs0, hs1⟩, ⟨hs2, hs3⟩, hs4, hs5⟩, -⟩ := hSw
                      go_simp
                      all_goals (with_reducible rfl)
                    (try go_frame)
                    (refine wpAnyH_take (i := 6) (v := ?v6e) (by simp only [List.getElem?_toArray, List.getElem?_cons_succ, List.getElem?_cons_zero]; rfl) (by kernel_rfl) (by kernel_rfl) (by kernel_rfl) (by exact fun _ _ _ h => h) (Or.inl ⟨by rfl, ?y6e⟩) (by assumption) ?r6e)
                    case y6e =>
                      intro w hSw
                      obtain ⟨⟨⟨hs0, hs1⟩, ⟨hs2, hs3⟩, hs4, hs5⟩, -⟩ := hSw
                      go_simp
                      all_goals (with_reducible rfl)
                    (try go_frame)
                    (refine wpAnyH_take (i := 7) (v := ?v7e) (by simp only [List.getElem?_toArray, List.getElem?_cons_succ, List.getElem?_cons_zero]; rfl) (by kernel_rfl) (by kernel_rfl) (by kernel_rfl) (by exact fun _ _ _ h => h) (Or.inl ⟨by rfl, ?y7e⟩) (by assumption) ?r7e)
                    case y7e =>
                      intro w hSw
                      obtain ⟨⟨⟨hs0, hs1⟩, ⟨hs2, hs3⟩, hs4, hs5⟩, -⟩ := hSw
                      go_simp
                      all_goals (with_reducible rfl)
                    (try go_frame)
                    (refine wpAnyH_take (i := 8) (v := ?v8e) (by simp only [List.getElem?_toArray, List.getElem?_cons_succ, List.getElem?_cons_zero]; rfl) (by kernel_rfl) (by kernel_rfl) (by kernel_rfl) (by exact fun _ _ _ h => h) (Or.inl ⟨by rfl, ?y8e⟩) (by assumption) ?r8e)
                    case y8e =>
                      intro w hSw
                      obtain ⟨⟨⟨hs0, hs1⟩, ⟨hs2, hs3⟩, hs4, hs5⟩, -⟩ := hSw
                      go_simp
                      all_goals (with_reducible rfl)
                    (try go_frame)
                    (refine wpAnyH_take (i := 9) (v := ?v9e) (by simp only [List.getElem?_toArray, List.getElem?_cons_succ, List.getElem?_cons_zero]; rfl) (by kernel_rfl) (by kernel_rfl) (by kernel_rfl) (by exact fun _ _ _ h => h) (Or.inl ⟨by rfl, ?y9e⟩) (by assumption) ?r9e)
                    case y9e =>
                      intro w hSw
                      obtain ⟨⟨⟨hs0, hs1⟩, ⟨hs2, hs3⟩, hs4, hs5⟩, -⟩ := hSw
                      go_simp
                      all_goals (with_reducible rfl)
                    (try go_frame)
                    (refine wpAnyH_take (i := 10) (v := ?v10e) (by simp only [List.getElem?_toArray, List.getElem?_cons_succ, List.getElem?_cons_zero]; rfl) (by kernel_rfl) (by kernel_rfl) (by kernel_rfl) (by exact fun _ _ _ h => h) (Or.inl ⟨by rfl, ?y10e⟩) (by assumption) ?r10e)
                    case y10e =>
                      intro w hSw
                      obtain ⟨⟨⟨hs0, hs1⟩, ⟨hs2, hs3⟩, hs4, hs5⟩, -⟩ := hSw
                      go_simp
                      all_goals (with_reducible rfl)
                    (try go_frame)
                    (refine wpAnyH_take (i := 11) (v := ?v11e) (by simp only [List.getElem?_toArray, List.getElem?_cons_succ, List.getElem?_cons_zero]; rfl) (by kernel_rfl) (by kernel_rfl) (by kernel_rfl) (by exact fun _ _ _ h => h) (Or.inl ⟨by rfl, ?y11e⟩) (by assumption) ?r11e)
                    case y11e =>
                      intro w hSw
                      obtain ⟨⟨⟨hs0, hs1⟩, ⟨hs2, hs3⟩, hs4, hs5⟩, -⟩ := hSw
                      go_simp
                      all_goals (with_reducible rfl)
                    (try go_frame)
                    refine wpAnyH_ready (rs := [12]) (by kernel_rfl) (by simp) ?_
                    refine AllReadyH.cons (by simp only [List.getElem?_toArray, List.getElem?_cons_succ, List.getElem?_cons_zero]; rfl) (fun K hK => ?_) AllReadyH.nil
                    go_simp
                    (go_at_call 61; with_reducible refine (CIa.out _).mono ?_; rintro e wk ⟨rfl, rfl⟩)
                    refine hK.out _ _ ?_ (fun hHeld => ?_)
                    · assumption
                    clear hK K
                    (try go_frame)
                    (refine wpAnyH_take (i := 13) (v := ?v13e) (by simp only [List.getElem?_toArray, List.getElem?_cons_succ, List.getElem?_cons_zero]; rfl) (by kernel_rfl) (by kernel_rfl) (by kernel_rfl) (by exact fun _ _ _ h => h) (Or.inl ⟨by rfl, ?y13e⟩) (by assumption) ?r13e)
                    case y13e =>
                      intro w hSw
                      obtain ⟨⟨⟨hs0, hs1⟩, ⟨hs2, hs3⟩, hs4, hs5⟩, -⟩ := hSw
                      go_simp
                      all_goals (with_reducible rfl)
                    (try go_frame)
                    (refine wpAnyH_take (i := 14) (v := ?v14e) (by simp only [List.getElem?_toArray, List.getElem?_cons_succ, List.getElem?_cons_zero]; rfl) (by kernel_rfl) (by kernel_rfl) (by kernel_rfl) (by exact fun _ _ _ h => h) (Or.inl ⟨by rfl, ?y14e⟩) (by assumption) ?r14e)
                    case y14e =>
                      intro w hSw
                      obtain ⟨⟨⟨hs0, hs1⟩, ⟨hs2, hs3⟩, hs4, hs5⟩, -⟩ := hSw
                      go_simp
                      all_goals (with_reducible rfl)
                    (try go_frame)
                    (refine wpAnyH_take (i := 15) (v := ?v15e) (by simp only [List.getElem?_toArray, List.getElem?_cons_succ, List.getElem?_cons_zero]; rfl) (by kernel_rfl) (by kernel_rfl) (by kernel_rfl) (by exact fun _ _ _ h => h) (Or.inl ⟨by rfl, ?y15e⟩) (by assumption) ?r15e)
                    case y15e =>
                      intro w hSw
                      obtain ⟨⟨⟨hs0, hs1⟩, ⟨hs2, hs3⟩, hs4, hs5⟩, -⟩ := hSw
                      go_simp
                      all_goals (with_reducible rfl)
                    (try go_frame)
                    (refine wpAnyH_take (i := 16) (v := ?v16e) (by simp only [List.getElem?_toArray, List.getElem?_cons_succ, List.getElem?_cons_zero]; rfl) (by kernel_rfl) (by kernel_rfl) (by kernel_rfl) (by exact fun _ _ _ h => h) (Or.inl ⟨by rfl, ?y16e⟩) (by assumption) ?r16e)
                    case y16e =>
                      intro w hSw
                      obtain ⟨⟨⟨hs0, hs1⟩, ⟨hs2, hs3⟩, hs4, hs5⟩, -⟩ := hSw
                      go_simp
                      all_goals (with_reducible rfl)
                    (try go_frame)
                    (refine wpAnyH_take (i := 17) (v := ?v17e) (by simp only [List.getElem?_toArray, List.getElem?_cons_succ, List.getElem?_cons_zero]; rfl) (by kernel_rfl) (by kernel_rfl) (by kernel_rfl) (by exact fun _ _ _ h => h) (Or.inl ⟨by rfl, ?y17e⟩) (by assumption) ?r17e)
                    case y17e =>
                      intro w hSw
                      obtain ⟨⟨⟨hs0, hs1⟩, ⟨hs2, hs3⟩, hs4, hs5⟩, -⟩ := hSw
                      go_simp
                      all_goals (with_reducible rfl)
                    (try go_frame)
                    (refine wpAnyH_take (i := 18) (v := ?v18e) (by simp only [List.getElem?_toArray, List.getElem?_cons_succ, List.getElem?_cons_zero]; rfl) (by kernel_rfl) (by kernel_rfl) (by kernel_rfl) (by exact fun _ _ _ h => h) (Or.inl ⟨by rfl, ?y18e⟩) (by assumption) ?r18e)
                    case y18e =>
                      intro w hSw
                      obtain ⟨⟨⟨hs0, hs1⟩, ⟨hs2, hs3⟩, hs4, hs5⟩, -⟩ := hSw
                      go_simp
                      all_goals (with_reducible rfl)
                    (try go_frame)
                    (refine wpAnyH_take (i := 19) (v := ?v19e) (by simp only [List.getElem?_toArray, List.getElem?_cons_succ, List.getElem?_cons_zero]; rfl) (by kernel_rfl) (by kernel_rfl) (by kernel_rfl) (by exact fun _ _ _ h => h) (Or.inl ⟨by rfl, ?y19e⟩) (by assumption) ?r19e)
                    case y19e =>
                      intro w hSw
                      obtain ⟨⟨⟨hs0, hs1⟩, ⟨hs2, hs3⟩, hs4, hs5⟩, -⟩ := hSw
                      go_simp
                      all_goals (with_reducible rfl)
                    (try go_frame)
                    (refine wpAnyH_take (i := 20) (v := ?v20e) (by simp only [List.getElem?_toArray, List.getElem?_cons_succ, List.getElem?_cons_zero]; rfl) (by kernel_rfl) (by kernel_rfl) (by kernel_rfl) (by exact fun _ _ _ h => h) (Or.inl ⟨by rfl, ?y20e⟩) (by assumption) ?r20e)
                    case y20e =>
                      intro w hSw
                      obtain ⟨⟨⟨hs0, hs1⟩, ⟨hs2, hs3⟩, hs4, hs5⟩, -⟩ := hSw
                      go_simp
                      all_goals (with_reducible rfl)
                    (try go_frame)
                    (refine wpAnyH_take (i := 21) (v := ?v21e) (by simp only [List.getElem?_toArray, List.getElem?_cons_succ, List.getElem?_cons_zero]; rfl) (by kernel_rfl) (by kernel_rfl) (by kernel_rfl) (by exact fun _ _ _ h => h) (Or.inl ⟨by rfl, ?y21e⟩) (by assumption) ?r21e)
                    case y21e =>
                      intro w hSw
                      obtain ⟨⟨⟨hs0, hs1⟩, ⟨hs2, hs3⟩, hs4, hs5⟩, -⟩ := hSw
                      go_simp
                      all_goals (with_reducible rfl)
                    (try go_frame)
                    (refine wpAnyH_take (i := 22) (v := ?v22e) (by simp only [List.getElem?_toArray, List.getElem?_cons_succ, List.getElem?_cons_zero]; rfl) (by kernel_rfl) (by kernel_rfl) (by kernel_rfl) (by exact fun _ _ _ h => h) (Or.inl ⟨by rfl, ?y22e⟩) (by assumption) ?r22e)
                    case y22e =>
                      intro w hSw
                      obtain ⟨⟨⟨hs0, hs1⟩, ⟨hs2, hs3⟩, hs4, hs5⟩, -⟩ := hSw
                      go_simp
                      all_goals (with_reducible rfl)
                    (try go_frame)
                    (refine wpAnyH_take (i := 23) (v := ?v23e) (by simp only [List.getElem?_toArray, List.getElem?_cons_succ, List.getElem?_cons_zero]; rfl) (by kernel_rfl) (by kernel_rfl) (by kernel_rfl) (by exact fun _ _ _ h => h) (Or.inl ⟨by rfl, ?y23e⟩) (by assumption) ?r23e)
                    case y23e =>
                      intro w hSw
                      obtain ⟨⟨⟨hs0, hs1⟩, ⟨hs2, hs3⟩, hs4, hs5⟩, -⟩ := hSw
                      go_simp
                      all_goals (with_reducible rfl)
                    (try go_frame)
                    refine wpAnyH_ready (rs := [24]) (by kernel_rfl) (by simp) ?_
                    refine AllReadyH.cons (by simp only [List.getElem?_toArray, List.getElem?_cons_succ, List.getElem?_cons_zero]; rfl) (fun K hK => ?_) AllReadyH.nil
                    go_simp
                    (go_at_call 61; with_reducible refine (CIb.out _).mono ?_; rintro e wk ⟨rfl, rfl⟩)
                    refine hK.out _ _ ?_ (fun hHeld => ?_)
                    · assumption
                    clear hK K
                    (try go_frame)
                    (refine wpAnyH_take (i := 25) (v := ?v25e) (by simp only [List.getElem?_toArray, List.getElem?_cons_succ, List.getElem?_cons_zero]; rfl) (by kernel_rfl) (by kernel_rfl) (by kernel_rfl) (by exact fun _ _ _ h => h) (Or.inl ⟨by rfl, ?y25e⟩) (by assumption) ?r25e)
                    case y25e =>
                      intro w hSw
                      obtain ⟨⟨⟨hs0, hs1⟩, ⟨hs2, hs3⟩, hs4, hs5⟩, -⟩ := hSw
                      go_simp
                      all_goals (with_reducible rfl)
                    (try go_frame)
                    (refine wpAnyH_take (i := 26) (v := ?v26e) (by simp only [List.getElem?_toArray, List.getElem?_cons_succ, List.getElem?_cons_zero]; rfl) (by kernel_rfl) (by kernel_rfl) (by kernel_rfl) (by exact fun _ _ _ h => h) (Or.inl ⟨by rfl, ?y26e⟩) (by assumption) ?r26e)
                    case y26e =>
                      intro w hSw
                      obtain ⟨⟨⟨hs0, hs1⟩, ⟨hs2, hs3⟩, hs4, hs5⟩, -⟩ := hSw
                      go_simp
                      all_goals (with_reducible rfl)
                    (try go_frame)
                    (refine wpAnyH_take (i := 27) (v := ?v27e) (by simp only [List.getElem?_toArray, List.getElem?_cons_succ, List.getElem?_cons_zero]; rfl) (by kernel_rfl) (by kernel_rfl) (by kernel_rfl) (by exact fun _ _ _ h => h) (Or.inl ⟨by rfl, ?y27e⟩) (by assumption) ?r27e)
                    case y27e =>
                      intro w hSw
                      obtain ⟨⟨⟨hs0, hs1⟩, ⟨hs2, hs3⟩, hs4, hs5⟩, -⟩ := hSw
                      go_simp
                      all_goals (with_reducible rfl)
                    (try go_frame)
                    (refine wpAnyH_take (i := 28) (v := ?v28e) (by simp only [List.getElem?_toArray, List.getElem?_cons_succ, List.getElem?_cons_zero]; rfl) (by kernel_rfl) (by kernel_rfl) (by kernel_rfl) (by exact fun _ _ _ h => h) (Or.inl ⟨by rfl, ?y28e⟩) (by assumption) ?r28e)
                    case y28e =>
                      intro w hSw
                      obtain ⟨⟨⟨hs0, hs1⟩, ⟨hs2, hs3⟩, hs4, hs5⟩, -⟩ := hSw
                      go_simp
                      all_goals (with_reducible rfl)
                    (try go_frame)
                    (refine wpAnyH_take (i := 29) (v := ?v29e) (by simp only [List.getElem?_toArray, List.getElem?_cons_succ, List.getElem?_cons_zero]; rfl) (by kernel_rfl) (by kernel_rfl) (by kernel_rfl) (by exact fun _ _ _ h => h) (Or.inl ⟨by rfl, ?y29e⟩) (by assumption) ?r29e)
                    case y29e =>
                      intro w hSw
                      obtain ⟨⟨⟨hs0, hs1⟩, ⟨hs2, hs3⟩, hs4, hs5⟩, -⟩ := hSw
                      go_simp
                      all_goals (with_reducible rfl)
                    (try go_frame)
                    (refine wpAnyH_take (i := 30) (v := ?v30e) (by simp only [List.getElem?_toArray, List.getElem?_cons_succ, List.getElem?_cons_zero]; rfl) (by kernel_rfl) (by kernel_rfl) (by kernel_rfl) (by exact fun _ _ _ h => h) (Or.inl ⟨by rfl, ?y30e⟩) (by assumption) ?r30e)
                    case y30e =>
                      intro w hSw
                      obtain ⟨⟨⟨hs0, hs1⟩, ⟨hs2, hs3⟩, hs4, hs5⟩, -⟩ := hSw
                      go_simp
                      all_goals (with_reducible rfl)
                    (try go_frame)
                    (refine wpAnyH_take (i := 31) (v := ?v31e) (by simp only [List.getElem?_toArray, List.getElem?_cons_succ, List.getElem?_cons_zero]; rfl) (by kernel_rfl) (by kernel_rfl) (by kernel_rfl) (by exact fun _ _ _ h => h) (Or.inl ⟨by rfl, ?y31e⟩) (by assumption) ?r31e)
                    case y31e =>
                      intro w hSw
                      obtain ⟨⟨⟨hs0, hs1⟩, ⟨hs2, hs3⟩, hs4, hs5⟩, -⟩ := hSw
                      go_simp
                      all_goals (with_reducible rfl)
                    (try go_frame)
                    (refine wpAnyH_take (i := 33) (v := ?v33e) (by simp only [List.getElem?_toArray, List.getElem?_cons_succ, List.getElem?_cons_zero]; rfl) (by kernel_rfl) (by kernel_rfl) (by kernel_rfl) (by exact fun _ _ _ h => h) (Or.inl ⟨by rfl, ?y33e⟩) (by assumption) ?r33e)
                    case y33e =>
                      intro w hSw
                      obtain ⟨⟨⟨hs0, hs1⟩, ⟨hs2, hs3⟩, hs4, hs5⟩, -⟩ := hSw
                      go_simp
                      all_goals (with_reducible rfl)
                    (try go_frame)
                    (refine wpAnyH_take (i := 34) (v := ?v34e) (by simp only [List.getElem?_toArray, List.getElem?_cons_succ, List.getElem?_cons_zero]; rfl) (by kernel_rfl) (by kernel_rfl) (by kernel_rfl) (by exact fun _ _ _ h => h) (Or.inl ⟨by rfl, ?y34e⟩) (by assumption) ?r34e)
                    case y34e =>
                      intro w hSw
                      obtain ⟨⟨⟨hs0, hs1⟩, ⟨hs2, hs3⟩, hs4, hs5⟩, -⟩ := hSw
                      go_simp
                      all_goals (with_reducible rfl)
                    (try go_frame)
                    (refine wpAnyH_take (i := 35) (v := ?v35e) (by simp only [List.getElem?_toArray, List.getElem?_cons_succ, List.getElem?_cons_zero]; rfl) (by kernel_rfl) (by kernel_rfl) (by kernel_rfl) (by exact fun _ _ _ h => h) (Or.inl ⟨by rfl, ?y35e⟩) (by assumption) ?r35e)
                    case y35e =>
                      intro w hSw
                      obtain ⟨⟨⟨hs0, hs1⟩, ⟨hs2, hs3⟩, hs4, hs5⟩, -⟩ := hSw
                      go_simp
                      all_goals (with_reducible rfl)
                    (try go_frame)
                    (refine wpAnyH_take (i := 36) (v := ?v36e) (by simp only [List.getElem?_toArray, List.getElem?_cons_succ, List.getElem?_cons_zero]; rfl) (by kernel_rfl) (by kernel_rfl) (by kernel_rfl) (by exact fun _ _ _ h => h) (Or.inl ⟨by rfl, ?y36e⟩) (by assumption) ?r36e)
                    case y36e =>
                      intro w hSw
                      obtain ⟨⟨⟨hs0, hs1⟩, ⟨hs2, hs3⟩, hs4, hs5⟩, -⟩ := hSw
                      go_simp
                      all_goals (with_reducible rfl)
                    (try go_frame)
                    refine wpAnyH_ready (rs := [32]) (by kernel_rfl) (by simp) ?_
                    refine AllReadyH.cons (by simp only [List.getElem?_toArray, List.getElem?_cons_succ, List.getElem?_cons_zero]; rfl) (fun K hK => ?_) AllReadyH.nil
                    go_simp
                    (go_at_call 62; with_reducible refine (EA.out _ (And.right (show HeldXS w1.heap.size w2.heap.size gr o2 (.slice a1 nE c1) (.slice a2 nE c2) (.slice b1 nF d1) (.slice b2 nF d2) (.int .i64 (p : Nat)) (.int .i64 (q : Nat)) wo _ by assumption))).mono ?_; rintro e wk ⟨rfl, yk⟩)
                    refine hK.out _ _ ?_ (fun hHeld => ?_)
                    · exact HeldXS.more (by assumption) yk
                    clear hK K
                    (try go_frame)
                    refine wpAnyH_ready (rs := [37]) (by kernel_rfl) (by simp) ?_
                    refine AllReadyH.cons (by simp only [List.getElem?_toArray, List.getElem?_cons_succ, List.getElem?_cons_zero]; rfl) (fun K hK => ?_) AllReadyH.nil
                    go_simp
                    (go_at_call 62; with_reducible refine (EB.out _ (And.right (show HeldXS w1.heap.size w2.heap.size gr o2 (.slice a1 nE c1) (.slice a2 nE c2) (.slice b1 nF d1) (.slice b2 nF d2) (.int .i64 (p : Nat)) (.int .i64 (q : Nat)) wo _ by assumption))).mono ?_; rintro e wk ⟨rfl, yk⟩)
                    refine hK.out _ _ ?_ (fun hHeld => ?_)
                    · exact HeldXS.more (by assumption) yk
                    clear hK K
                    (try go_frame)
                    (refine wpAnyH_take (i := 38) (v := ?v38e) (by simp only [List.getElem?_toArray, List.getElem?_cons_succ, List.getElem?_cons_zero]; rfl) (by kernel_rfl) (by kernel_rfl) (by kernel_rfl) (by exact fun _ _ _ h => h) (Or.inl ⟨by rfl, ?y38e⟩) (by assumption) ?r38e)
                    case y38e =>
                      intro w hSw
                      obtain ⟨⟨⟨hs0, hs1⟩, ⟨hs2, hs3⟩, hs4, hs5⟩, -⟩ := hSw
                      go_simp
                      all_goals (with_reducible rfl)
                    (try go_frame)
                    (refine wpAnyH_take (i := 39) (v := ?v39e) (by simp only [List.getElem?_toArray, List.getElem?_cons_succ, List.getElem?_cons_zero]; rfl) (by kernel_rfl) (by kernel_rfl) (by kernel_rfl) (by exact fun _ _ _ h => h) (Or.inl ⟨by rfl, ?y39e⟩) (by assumption) ?r39e)
                    case y39e =>
                      intro w hSw
                      obtain ⟨⟨⟨hs0, hs1⟩, ⟨hs2, hs3⟩, hs4, hs5⟩, -⟩ := hSw
                      go_simp
                      all_goals (with_reducible rfl)
                    (try go_frame)
                    refine wpAnyH_done (by kernel_rfl) ?_ _
                    refine world_cut1 (w0 := wo) (And.right (show HeldXS w1.heap.size w2.heap.size gr o2 (.slice a1 nE c1) (.slice a2 nE c2) (.slice b1 nF d1) (.slice b2 nF d2) (.int .i64 (p : Nat)) (.int .i64 (q : Nat)) wo _ by assumption)) ?_
                    intro w4 x4
                    have X4 := Lib.hid x4
                    clear x4
                    go_wp2
                    go_loopw [11] (fun i wr => Hid (∃ m : Nat, m ≤ 12 ∧ i = .int .i64 m ∧ movB N M L (p, q) m = true ∧ Ext wo wr)) (fun i _ => 12 - (intOf i).toNat)
                    case atStart => exact Lib.hid ⟨0, by omega, rfl, rfl, X4.out.trans (by (repeat (first | exact Ext.refl _ | assumption | refine Ext.alloc ?_ _ | refine Ext.drewN ?_ _ | refine Ext.drew ?_)))⟩
                    case round =>
                      obtain ⟨m, hm, rfl, hmv, hx⟩ := hrel.out
                      have HMV := Lib.hid hmv
                      have HX5 := Lib.hid hx
                      clear hrel hmv hx
                      by_cases hm12 : m < 12
                      · have hm12i : (m : Int) < 12 := by omega
                        have H2 := Lib.hid (HeldQS.ext H1.out HX5.out)
                        have TA : Hid (∀ w', Ext wr w' → Calls Tryz.prog 63 #[autV a1 nE c1 a2 nE c2, .int .i64 (p : Nat), .int .i64 (m : Nat)] w' fun r w'' => r = .returned (.int .i64 (stp N p m : Nat)) ∧ Ext w' w'') := fun w' x => SA1.out w' p m (X2W.out.trans (HX5.out.trans x)) (by omega) hm12
                        have TB : Hid (∀ w', Ext wr w' → Calls Tryz.prog 63 #[autV b1 nF d1 b2 nF d2, .int .i64 (q : Nat), .int .i64 (m : Nat)] w' fun r w'' => r = .returned (.int .i64 (stp M q m : Nat)) ∧ Ext w' w'') := fun w' x => SB1.out w' q m (X2W.out.trans (HX5.out.trans x)) (by omega) hm12
                        have TH : Hid (∀ w', Ext wr w' → Calls Tryz.prog 60 #[.slice (some ⟨g, og, none⟩) nL cr, .int .i64 (stp N p m : Nat), .int .i64 (stp M q m : Nat)] w' fun r w'' => r = .returned (.bool (hasP L (nxP N M (p, q) m))) ∧ Ext w' w'') := fun w' x => CH.out w' _ _ (X0W.out.trans (HX5.out.trans x))
                        have HSu := Lib.hid (movS_succ N M L (p, q) m)
                        have HBm : Hid (hasP L (nxP N M (p, q) m) = false → movB N M L (p, q) 12 = false) := fun h => movS_bad hm12 h
                        cases hh : hasP L (nxP N M (p, q) m)
                        · rw [hh] at TH
                          have HF2 := Lib.hid (HBad1.out (.inr (by rw [HST.out, HBm.out hh, Bool.and_false])))
                          clear hh HBm HSu HBad1 HBad HAll1 HOk HST HIE HMV
                          generalize stp N p m = y0 at *
                          generalize stp M q m = y1 at *
                          go_wp2
                          have K0f : HeldXS w1.heap.size w2.heap.size gr o2 (.slice a1 nE c1) (.slice a2 nE c2) (.slice b1 nF d1) (.slice b2 nF d2) (.int .i64 (p : Nat)) (.int .i64 (q : Nat)) wr wr.drew := ⟨H2.out.ext (by (repeat (first | exact Ext.refl _ | assumption | refine Ext.alloc ?_ _ | refine Ext.drewN ?_ _ | refine Ext.drew ?_))), by (repeat (first | exact Ext.refl _ | assumption | refine Ext.alloc ?_ _ | refine Ext.drewN ?_ _ | refine Ext.drew ?_))⟩
                          refine wp_region_held_drew (S := HeldXS w1.heap.size w2.heap.size gr o2 (.slice a1 nE c1) (.slice a2 nE c2) (.slice b1 nF d1) (.slice b2 nF d2) (.int .i64 (p : Nat)) (.int .i64 (q : Nat)) wr) (by kernel_rfl) K0f (fun hHeld => ?_)
                          (refine wpAnyH_take (i := 0) (v := ?v0f) (by simp only [List.getElem?_toArray, List.getElem?_cons_zero]; rfl) (by kernel_rfl) (by kernel_rfl) (by kernel_rfl) (by exact fun _ _ _ h => h) (Or.inl ⟨by rfl, ?y0f⟩) (by assumption) ?r0f)
                          case y0f =>
                            intro w hSw
                            obtain ⟨⟨⟨hs0, hs1⟩, ⟨hs2, hs3⟩, hs4, hs5⟩, -⟩ := hSw
                            go_simp
                            all_goals (with_reducible rfl)
                          (try go_frame)
                          (refine wpAnyH_take (i := 1) (v := ?v1f) (by simp only [List.getElem?_toArray, List.getElem?_cons_succ, List.getElem?_cons_zero]; rfl) (by kernel_rfl) (by kernel_rfl) (by kernel_rfl) (by exact fun _ _ _ h => h) (Or.inl ⟨by rfl, ?y1f⟩) (by assumption) ?r1f)
                          case y1f =>
                            intro w hSw
                            obtain ⟨⟨⟨hs0, hs1⟩, ⟨hs2, hs3⟩, hs4, hs5⟩, -⟩ := hSw
                            go_simp
                            all_goals (with_reducible rfl)
                          (try go_frame)
                          (refine wpAnyH_take (i := 2) (v := ?v2f) (by simp only [List.getElem?_toArray, List.getElem?_cons_succ, List.getElem?_cons_zero]; rfl) (by kernel_rfl) (by kernel_rfl) (by kernel_rfl) (by exact fun _ _ _ h => h) (Or.inl ⟨by rfl, ?y2f⟩) (by assumption) ?r2f)
                          case y2f =>
                            intro w hSw
                            obtain ⟨⟨⟨hs0, hs1⟩, ⟨hs2, hs3⟩, hs4, hs5⟩, -⟩ := hSw
                            go_simp
                            all_goals (with_reducible rfl)
                          (try go_frame)
                          (refine wpAnyH_take (i := 3) (v := ?v3f) (by simp only [List.getElem?_toArray, List.getElem?_cons_succ, List.getElem?_cons_zero]; rfl) (by kernel_rfl) (by kernel_rfl) (by kernel_rfl) (by exact fun _ _ _ h => h) (Or.inl ⟨by rfl, ?y3f⟩) (by assumption) ?r3f)
                          case y3f =>
                            intro w hSw
                            obtain ⟨⟨⟨hs0, hs1⟩, ⟨hs2, hs3⟩, hs4, hs5⟩, -⟩ := hSw
                            go_simp
                            all_goals (with_reducible rfl)
                          (try go_frame)
                          (refine wpAnyH_take (i := 4) (v := ?v4f) (by simp only [List.getElem?_toArray, List.getElem?_cons_succ, List.getElem?_cons_zero]; rfl) (by kernel_rfl) (by kernel_rfl) (by kernel_rfl) (by exact fun _ _ _ h => h) (Or.inl ⟨by rfl, ?y4f⟩) (by assumption) ?r4f)
                          case y4f =>
                            intro w hSw
                            obtain ⟨⟨⟨hs0, hs1⟩, ⟨hs2, hs3⟩, hs4, hs5⟩, -⟩ := hSw
                            go_simp
                            all_goals (with_reducible rfl)
                          (try go_frame)
                          (refine wpAnyH_take (i := 5) (v := ?v5f) (by simp only [List.getElem?_toArray, List.getElem?_cons_succ, List.getElem?_cons_zero]; rfl) (by kernel_rfl) (by kernel_rfl) (by kernel_rfl) (by exact fun _ _ _ h => h) (Or.inl ⟨by rfl, ?y5f⟩) (by assumption) ?r5f)
                          case y5f =>
                            intro w hSw
                            obtain ⟨⟨⟨hs0, hs1⟩, ⟨hs2, hs3⟩, hs4, hs5⟩, -⟩ := hSw
                            go_simp
                            all_goals (with_reducible rfl)
                          (try go_frame)
                          (refine wpAnyH_take (i := 7) (v := ?v7f) (by simp only [List.getElem?_toArray, List.getElem?_cons_succ, List.getElem?_cons_zero]; rfl) (by kernel_rfl) (by kernel_rfl) (by kernel_rfl) (by exact fun _ _ _ h => h) (Or.inl ⟨by rfl, ?y7f⟩) (by assumption) ?r7f)
                          case y7f =>
                            intro w hSw
                            obtain ⟨⟨⟨hs0, hs1⟩, ⟨hs2, hs3⟩, hs4, hs5⟩, -⟩ := hSw
                            go_simp
                            all_goals (with_reducible rfl)
                          (try go_frame)
                          (refine wpAnyH_take (i := 8) (v := ?v8f) (by simp only [List.getElem?_toArray, List.getElem?_cons_succ, List.getElem?_cons_zero]; rfl) (by kernel_rfl) (by kernel_rfl) (by kernel_rfl) (by exact fun _ _ _ h => h) (Or.inl ⟨by rfl, ?y8f⟩) (by assumption) ?r8f)
                          case y8f =>
                            intro w hSw
                            obtain ⟨⟨⟨hs0, hs1⟩, ⟨hs2, hs3⟩, hs4, hs5⟩, -⟩ := hSw
                            go_simp
                            all_goals (with_reducible rfl)
                          (try go_frame)
                          (refine wpAnyH_take (i := 9) (v := ?v9f) (by simp only [List.getElem?_toArray, List.getElem?_cons_succ, List.getElem?_cons_zero]; rfl) (by kernel_rfl) (by kernel_rfl) (by kernel_rfl) (by exact fun _ _ _ h => h) (Or.inl ⟨by rfl, ?y9f⟩) (by assumption) ?r9f)
                          case y9f =>
                            intro w hSw
                            obtain ⟨⟨⟨hs0, hs1⟩, ⟨hs2, hs3⟩, hs4, hs5⟩, -⟩ := hSw
                            go_simp
                            all_goals (with_reducible rfl)
                          (try go_frame)
                          (refine wpAnyH_take (i := 10) (v := ?v10f) (by simp only [List.getElem?_toArray, List.getElem?_cons_succ, List.getElem?_cons_zero]; rfl) (by kernel_rfl) (by kernel_rfl) (by kernel_rfl) (by exact fun _ _ _ h => h) (Or.inl ⟨by rfl, ?y10f⟩) (by assumption) ?r10f)
                          case y10f =>
                            intro w hSw
                            obtain ⟨⟨⟨hs0, hs1⟩, ⟨hs2, hs3⟩, hs4, hs5⟩, -⟩ := hSw
                            go_simp
                            all_goals (with_reducible rfl)
                          (try go_frame)
                          (refine wpAnyH_take (i := 11) (v := ?v11f) (by simp only [List.getElem?_toArray, List.getElem?_cons_succ, List.getElem?_cons_zero]; rfl) (by kernel_rfl) (by kernel_rfl) (by kernel_rfl) (by exact fun _ _ _ h => h) (Or.inl ⟨by rfl, ?y11f⟩) (by assumption) ?r11f)
                          case y11f =>
                            intro w hSw
                            obtain ⟨⟨⟨hs0, hs1⟩, ⟨hs2, hs3⟩, hs4, hs5⟩, -⟩ := hSw
                            go_simp
                            all_goals (with_reducible rfl)
                          (try go_frame)
                          refine wpAnyH_ready (rs := [6]) (by kernel_rfl) (by simp) ?_
                          refine AllReadyH.cons (by simp only [List.getElem?_toArray, List.getElem?_cons_succ, List.getElem?_cons_zero]; rfl) (fun K hK => ?_) AllReadyH.nil
                          go_simp
                          (go_at_call 63; with_reducible refine (TA.out _ (And.right (show HeldXS w1.heap.size w2.heap.size gr o2 (.slice a1 nE c1) (.slice a2 nE c2) (.slice b1 nF d1) (.slice b2 nF d2) (.int .i64 (p : Nat)) (.int .i64 (q : Nat)) wr _ by assumption))).mono ?_; rintro e wk ⟨rfl, yk⟩)
                          refine hK.out _ _ ?_ (fun hHeld => ?_)
                          · exact HeldXS.more (by assumption) yk
                          clear hK K
                          (try go_frame)
                          refine wpAnyH_ready (rs := [12]) (by kernel_rfl) (by simp) ?_
                          refine AllReadyH.cons (by simp only [List.getElem?_toArray, List.getElem?_cons_succ, List.getElem?_cons_zero]; rfl) (fun K hK => ?_) AllReadyH.nil
                          go_simp
                          (go_at_call 63; with_reducible refine (TB.out _ (And.right (show HeldXS w1.heap.size w2.heap.size gr o2 (.slice a1 nE c1) (.slice a2 nE c2) (.slice b1 nF d1) (.slice b2 nF d2) (.int .i64 (p : Nat)) (.int .i64 (q : Nat)) wr _ by assumption))).mono ?_; rintro e wk ⟨rfl, yk⟩)
                          refine hK.out _ _ ?_ (fun hHeld => ?_)
                          · exact HeldXS.more (by assumption) yk
                          clear hK K
                          (try go_frame)
                          refine wpAnyH_ready (rs := [13]) (by kernel_rfl) (by simp) ?_
                          refine AllReadyH.cons (by simp only [List.getElem?_toArray, List.getElem?_cons_succ, List.getElem?_cons_zero]; rfl) (fun K hK => ?_) AllReadyH.nil
                          go_simp
                          (go_at_call 60; with_reducible refine (TH.out _ (And.right (show HeldXS w1.heap.size w2.heap.size gr o2 (.slice a1 nE c1) (.slice a2 nE c2) (.slice b1 nF d1) (.slice b2 nF d2) (.int .i64 (p : Nat)) (.int .i64 (q : Nat)) wr _ by assumption))).mono ?_; rintro e wk ⟨rfl, yk⟩)
                          refine hK.out _ _ ?_ (fun hHeld => ?_)
                          · exact HeldXS.more (by assumption) yk
                          clear hK K
                          (try go_frame)
                          (refine wpAnyH_take (i := 14) (v := ?v14f) (by simp only [List.getElem?_toArray, List.getElem?_cons_succ, List.getElem?_cons_zero]; rfl) (by kernel_rfl) (by kernel_rfl) (by kernel_rfl) (by exact fun _ _ _ h => h) (Or.inl ⟨by rfl, ?y14f⟩) (by assumption) ?r14f)
                          case y14f =>
                            intro w hSw
                            obtain ⟨⟨⟨hs0, hs1⟩, ⟨hs2, hs3⟩, hs4, hs5⟩, -⟩ := hSw
                            go_simp
                            all_goals (with_reducible rfl)
                          (try go_frame)
                          refine wpAnyH_done (by kernel_rfl) ?_ _
                          go_wp2
                          go_ret
                          exact ⟨by rw [HF2.out]; rfl, X0W.out.trans (HX5.out.trans (And.right (show HeldXS w1.heap.size w2.heap.size gr o2 (.slice a1 nE c1) (.slice a2 nE c2) (.slice b1 nF d1) (.slice b2 nF d2) (.int .i64 (p : Nat)) (.int .i64 (q : Nat)) wr _ by assumption)))⟩
                        · rw [hh] at TH
                          have HM2 : Hid (movB N M L (p, q) (m + 1) = true) := by rw [HSu.out, HMV.out, hh]; rfl
                          clear hh HBm HSu HMV
                          generalize stp N p m = y0 at *
                          generalize stp M q m = y1 at *
                          go_wp2
                          have K0g : HeldXS w1.heap.size w2.heap.size gr o2 (.slice a1 nE c1) (.slice a2 nE c2) (.slice b1 nF d1) (.slice b2 nF d2) (.int .i64 (p : Nat)) (.int .i64 (q : Nat)) wr wr.drew := ⟨H2.out.ext (by (repeat (first | exact Ext.refl _ | assumption | refine Ext.alloc ?_ _ | refine Ext.drewN ?_ _ | refine Ext.drew ?_))), by (repeat (first | exact Ext.refl _ | assumption | refine Ext.alloc ?_ _ | refine Ext.drewN ?_ _ | refine Ext.drew ?_))⟩
                          refine wp_region_held_drew (S := HeldXS w1.heap.size w2.heap.size gr o2 (.slice a1 nE c1) (.slice a2 nE c2) (.slice b1 nF d1) (.slice b2 nF d2) (.int .i64 (p : Nat)) (.int .i64 (q : Nat)) wr) (by kernel_rfl) K0g (fun hHeld => ?_)
                          (refine wpAnyH_take (i := 0) (v := ?v0g) (by simp only [List.getElem?_toArray, List.getElem?_cons_zero]; rfl) (by kernel_rfl) (by kernel_rfl) (by kernel_rfl) (by exact fun _ _ _ h => h) (Or.inl ⟨by rfl, ?y0g⟩) (by assumption) ?r0g)
                          case y0g =>
                            intro w hSw
                            obtain ⟨⟨⟨hs0, hs1⟩, ⟨hs2, hs3⟩, hs4, hs5⟩, -⟩ := hSw
                            go_simp
                            all_goals (with_reducible rfl)
                          (try go_frame)
                          (refine wpAnyH_take (i := 1) (v := ?v1g) (by simp only [List.getElem?_toArray, List.getElem?_cons_succ, List.getElem?_cons_zero]; rfl) (by kernel_rfl) (by kernel_rfl) (by kernel_rfl) (by exact fun _ _ _ h => h) (Or.inl ⟨by rfl, ?y1g⟩) (by assumption) ?r1g)
                          case y1g =>
                            intro w hSw
                            obtain ⟨⟨⟨hs0, hs1⟩, ⟨hs2, hs3⟩, hs4, hs5⟩, -⟩ := hSw
                            go_simp
                            all_goals (with_reducible rfl)
                          (try go_frame)
                          (refine wpAnyH_take (i := 2) (v := ?v2g) (by simp only [List.getElem?_toArray, List.getElem?_cons_succ, List.getElem?_cons_zero]; rfl) (by kernel_rfl) (by kernel_rfl) (by kernel_rfl) (by exact fun _ _ _ h => h) (Or.inl ⟨by rfl, ?y2g⟩) (by assumption) ?r2g)
                          case y2g =>
                            intro w hSw
                            obtain ⟨⟨⟨hs0, hs1⟩, ⟨hs2, hs3⟩, hs4, hs5⟩, -⟩ := hSw
                            go_simp
                            all_goals (with_reducible rfl)
                          (try go_frame)
                          (refine wpAnyH_take (i := 3) (v := ?v3g) (by simp only [List.getElem?_toArray, List.getElem?_cons_succ, List.getElem?_cons_zero]; rfl) (by kernel_rfl) (by kernel_rfl) (by kernel_rfl) (by exact fun _ _ _ h => h) (Or.inl ⟨by rfl, ?y3g⟩) (by assumption) ?r3g)
                          case y3g =>
                            intro w hSw
                            obtain ⟨⟨⟨hs0, hs1⟩, ⟨hs2, hs3⟩, hs4, hs5⟩, -⟩ := hSw
                            go_simp
                            all_goals (with_reducible rfl)
                          (try go_frame)
                          (refine wpAnyH_take (i := 4) (v := ?v4g) (by simp only [List.getElem?_toArray, List.getElem?_cons_succ, List.getElem?_cons_zero]; rfl) (by kernel_rfl) (by kernel_rfl) (by kernel_rfl) (by exact fun _ _ _ h => h) (Or.inl ⟨by rfl, ?y4g⟩) (by assumption) ?r4g)
                          case y4g =>
                            intro w hSw
                            obtain ⟨⟨⟨hs0, hs1⟩, ⟨hs2, hs3⟩, hs4, hs5⟩, -⟩ := hSw
                            go_simp
                            all_goals (with_reducible rfl)
                          (try go_frame)
                          (refine wpAnyH_take (i := 5) (v := ?v5g) (by simp only [List.getElem?_toArray, List.getElem?_cons_succ, List.getElem?_cons_zero]; rfl) (by kernel_rfl) (by kernel_rfl) (by kernel_rfl) (by exact fun _ _ _ h => h) (Or.inl ⟨by rfl, ?y5g⟩) (by assumption) ?r5g)
                          case y5g =>
                            intro w hSw
                            obtain ⟨⟨⟨hs0, hs1⟩, ⟨hs2, hs3⟩, hs4, hs5⟩, -⟩ := hSw
                            go_simp
                            all_goals (with_reducible rfl)
                          (try go_frame)
                          (refine wpAnyH_take (i := 7) (v := ?v7g) (by simp only [List.getElem?_toArray, List.getElem?_cons_succ, List.getElem?_cons_zero]; rfl) (by kernel_rfl) (by kernel_rfl) (by kernel_rfl) (by exact fun _ _ _ h => h) (Or.inl ⟨by rfl, ?y7g⟩) (by assumption) ?r7g)
                          case y7g =>
                            intro w hSw
                            obtain ⟨⟨⟨hs0, hs1⟩, ⟨hs2, hs3⟩, hs4, hs5⟩, -⟩ := hSw
                            go_simp
                            all_goals (with_reducible rfl)
                          (try go_frame)
                          (refine wpAnyH_take (i := 8) (v := ?v8g) (by simp only [List.getElem?_toArray, List.getElem?_cons_succ, List.getElem?_cons_zero]; rfl) (by kernel_rfl) (by kernel_rfl) (by kernel_rfl) (by exact fun _ _ _ h => h) (Or.inl ⟨by rfl, ?y8g⟩) (by assumption) ?r8g)
                          case y8g =>
                            intro w hSw
                            obtain ⟨⟨⟨hs0, hs1⟩, ⟨hs2, hs3⟩, hs4, hs5⟩, -⟩ := hSw
                            go_simp
                            all_goals (with_reducible rfl)
                          (try go_frame)
                          (refine wpAnyH_take (i := 9) (v := ?v9g) (by simp only [List.getElem?_toArray, List.getElem?_cons_succ, List.getElem?_cons_zero]; rfl) (by kernel_rfl) (by kernel_rfl) (by kernel_rfl) (by exact fun _ _ _ h => h) (Or.inl ⟨by rfl, ?y9g⟩) (by assumption) ?r9g)
                          case y9g =>
                            intro w hSw
                            obtain ⟨⟨⟨hs0, hs1⟩, ⟨hs2, hs3⟩, hs4, hs5⟩, -⟩ := hSw
                            go_simp
                            all_goals (with_reducible rfl)
                          (try go_frame)
                          (refine wpAnyH_take (i := 10) (v := ?v10g) (by simp only [List.getElem?_toArray, List.getElem?_cons_succ, List.getElem?_cons_zero]; rfl) (by kernel_rfl) (by kernel_rfl) (by kernel_rfl) (by exact fun _ _ _ h => h) (Or.inl ⟨by rfl, ?y10g⟩) (by assumption) ?r10g)
                          case y10g =>
                            intro w hSw
                            obtain ⟨⟨⟨hs0, hs1⟩, ⟨hs2, hs3⟩, hs4, hs5⟩, -⟩ := hSw
                            go_simp
                            all_goals (with_reducible rfl)
                          (try go_frame)
                          (refine wpAnyH_take (i := 11) (v := ?v11g) (by simp only [List.getElem?_toArray, List.getElem?_cons_succ, List.getElem?_cons_zero]; rfl) (by kernel_rfl) (by kernel_rfl) (by kernel_rfl) (by exact fun _ _ _ h => h) (Or.inl ⟨by rfl, ?y11g⟩) (by assumption) ?r11g)
                          case y11g =>
                            intro w hSw
                            obtain ⟨⟨⟨hs0, hs1⟩, ⟨hs2, hs3⟩, hs4, hs5⟩, -⟩ := hSw
                            go_simp
                            all_goals (with_reducible rfl)
                          (try go_frame)
                          refine wpAnyH_ready (rs := [6]) (by kernel_rfl) (by simp) ?_
                          refine AllReadyH.cons (by simp only [List.getElem?_toArray, List.getElem?_cons_succ, List.getElem?_cons_zero]; rfl) (fun K hK => ?_) AllReadyH.nil
                          go_simp
                          (go_at_call 63; with_reducible refine (TA.out _ (And.right (show HeldXS w1.heap.size w2.heap.size gr o2 (.slice a1 nE c1) (.slice a2 nE c2) (.slice b1 nF d1) (.slice b2 nF d2) (.int .i64 (p : Nat)) (.int .i64 (q : Nat)) wr _ by assumption))).mono ?_; rintro e wk ⟨rfl, yk⟩)
                          refine hK.out _ _ ?_ (fun hHeld => ?_)
                          · exact HeldXS.more (by assumption) yk
                          clear hK K
                          (try go_frame)
                          refine wpAnyH_ready (rs := [12]) (by kernel_rfl) (by simp) ?_
                          refine AllReadyH.cons (by simp only [List.getElem?_toArray, List.getElem?_cons_succ, List.getElem?_cons_zero]; rfl) (fun K hK => ?_) AllReadyH.nil
                          go_simp
                          (go_at_call 63; with_reducible refine (TB.out _ (And.right (show HeldXS w1.heap.size w2.heap.size gr o2 (.slice a1 nE c1) (.slice a2 nE c2) (.slice b1 nF d1) (.slice b2 nF d2) (.int .i64 (p : Nat)) (.int .i64 (q : Nat)) wr _ by assumption))).mono ?_; rintro e wk ⟨rfl, yk⟩)
                          refine hK.out _ _ ?_ (fun hHeld => ?_)
                          · exact HeldXS.more (by assumption) yk
                          clear hK K
                          (try go_frame)
                          refine wpAnyH_ready (rs := [13]) (by kernel_rfl) (by simp) ?_
                          refine AllReadyH.cons (by simp only [List.getElem?_toArray, List.getElem?_cons_succ, List.getElem?_cons_zero]; rfl) (fun K hK => ?_) AllReadyH.nil
                          go_simp
                          (go_at_call 60; with_reducible refine (TH.out _ (And.right (show HeldXS w1.heap.size w2.heap.size gr o2 (.slice a1 nE c1) (.slice a2 nE c2) (.slice b1 nF d1) (.slice b2 nF d2) (.int .i64 (p : Nat)) (.int .i64 (q : Nat)) wr _ by assumption))).mono ?_; rintro e wk ⟨rfl, yk⟩)
                          refine hK.out _ _ ?_ (fun hHeld => ?_)
                          · exact HeldXS.more (by assumption) yk
                          clear hK K
                          (try go_frame)
                          (refine wpAnyH_take (i := 14) (v := ?v14g) (by simp only [List.getElem?_toArray, List.getElem?_cons_succ, List.getElem?_cons_zero]; rfl) (by kernel_rfl) (by kernel_rfl) (by kernel_rfl) (by exact fun _ _ _ h => h) (Or.inl ⟨by rfl, ?y14g⟩) (by assumption) ?r14g)
                          case y14g =>
                            intro w hSw
                            obtain ⟨⟨⟨hs0, hs1⟩, ⟨hs2, hs3⟩, hs4, hs5⟩, -⟩ := hSw
                            go_simp
                            all_goals (with_reducible rfl)
                          (try go_frame)
                          refine wpAnyH_done (by kernel_rfl) ?_ _
                          have HX6 := Lib.hid (And.right (show HeldXS w1.heap.size w2.heap.size gr o2 (.slice a1 nE c1) (.slice a2 nE c2) (.slice b1 nF d1) (.slice b2 nF d2) (.int .i64 (p : Nat)) (.int .i64 (q : Nat)) wr _ by assumption))
                          go_wp2
                          go_roundw
                          case rel => exact Lib.hid ⟨m + 1, by omega, by go_num, HM2.out, HX5.out.trans HX6.out⟩
                          case measure => simp [intOf]; omega
                      · obtain rfl : m = 12 := by omega
                        have HOk2 : Hid (rowsOk E F2 N M L (k + 1)) := fun j hj => by
                          by_cases e : j = k
                          · subst e
                            exact ⟨by rw [HnE.out, HnF.out]; exact HROW.out, by rw [HST.out, HMV.out, decide_eq_true HIE.out]; rfl⟩
                          · exact HOk.out j (by omega)
                        go_wp2
                        go_roundw
                        case rel => exact Lib.hid ⟨k + 1, by omega, by go_num, HOk2.out, HX.out.trans HX5.out⟩
                        case measure => simp [intOf]; omega
                  · have HF2 := Lib.hid (HBad1.out (.inr (by rw [HST.out, decide_eq_false hie]; rfl)))
                    have hie' : ((((img E p : Nat) : Int)) != ((img F2 q : Nat) : Int)) = true := by simp; omega
                    have hie2 : ¬ (((img E p : Nat) : Int) = ((img F2 q : Nat) : Int)) := by omega
                    clear hie HBad1 HBad HAll1 HOk HST
                    generalize img E p = u at *
                    generalize img F2 q = v at *
                    go_wp2
                    have K0c : HeldXS w1.heap.size w2.heap.size gr o2 (.slice a1 nE c1) (.slice a2 nE c2) (.slice b1 nF d1) (.slice b2 nF d2) (.int .i64 (p : Nat)) (.int .i64 (q : Nat)) wr wr.drew := ⟨H1.out.ext (by (repeat (first | exact Ext.refl _ | assumption | refine Ext.alloc ?_ _ | refine Ext.drewN ?_ _ | refine Ext.drew ?_))), by (repeat (first | exact Ext.refl _ | assumption | refine Ext.alloc ?_ _ | refine Ext.drewN ?_ _ | refine Ext.drew ?_))⟩
                    refine wp_region_held_drew (S := HeldXS w1.heap.size w2.heap.size gr o2 (.slice a1 nE c1) (.slice a2 nE c2) (.slice b1 nF d1) (.slice b2 nF d2) (.int .i64 (p : Nat)) (.int .i64 (q : Nat)) wr) (by kernel_rfl) K0c (fun hHeld => ?_)
                    (refine wpAnyH_take (i := 0) (v := ?v0c) (by simp only [List.getElem?_toArray, List.getElem?_cons_zero]; rfl) (by kernel_rfl) (by kernel_rfl) (by kernel_rfl) (by exact fun _ _ _ h => h) (Or.inl ⟨by rfl, ?y0c⟩) (by assumption) ?r0c)
                    case y0c =>
                      intro w hSw
                      obtain ⟨⟨⟨hs0, hs1⟩, ⟨hs2, hs3⟩, hs4, hs5⟩, -⟩ := hSw
                      go_simp
                      all_goals (with_reducible rfl)
                    (try go_frame)
                    (refine wpAnyH_take (i := 1) (v := ?v1c) (by simp only [List.getElem?_toArray, List.getElem?_cons_succ, List.getElem?_cons_zero]; rfl) (by kernel_rfl) (by kernel_rfl) (by kernel_rfl) (by exact fun _ _ _ h => h) (Or.inl ⟨by rfl, ?y1c⟩) (by assumption) ?r1c)
                    case y1c =>
                      intro w hSw
                      obtain ⟨⟨⟨hs0, hs1⟩, ⟨hs2, hs3⟩, hs4, hs5⟩, -⟩ := hSw
                      go_simp
                      all_goals (with_reducible rfl)
                    (try go_frame)
                    (refine wpAnyH_take (i := 2) (v := ?v2c) (by simp only [List.getElem?_toArray, List.getElem?_cons_succ, List.getElem?_cons_zero]; rfl) (by kernel_rfl) (by kernel_rfl) (by kernel_rfl) (by exact fun _ _ _ h => h) (Or.inl ⟨by rfl, ?y2c⟩) (by assumption) ?r2c)
                    case y2c =>
                      intro w hSw
                      obtain ⟨⟨⟨hs0, hs1⟩, ⟨hs2, hs3⟩, hs4, hs5⟩, -⟩ := hSw
                      go_simp
                      all_goals (with_reducible rfl)
                    (try go_frame)
                    (refine wpAnyH_take (i := 3) (v := ?v3c) (by simp only [List.getElem?_toArray, List.getElem?_cons_succ, List.getElem?_cons_zero]; rfl) (by kernel_rfl) (by kernel_rfl) (by kernel_rfl) (by exact fun _ _ _ h => h) (Or.inl ⟨by rfl, ?y3c⟩) (by assumption) ?r3c)
                    case y3c =>
                      intro w hSw
                      obtain ⟨⟨⟨hs0, hs1⟩, ⟨hs2, hs3⟩, hs4, hs5⟩, -⟩ := hSw
                      go_simp
                      all_goals (with_reducible rfl)
                    (try go_frame)
                    (refine wpAnyH_take (i := 4) (v := ?v4c) (by simp only [List.getElem?_toArray, List.getElem?_cons_succ, List.getElem?_cons_zero]; rfl) (by kernel_rfl) (by kernel_rfl) (by kernel_rfl) (by exact fun _ _ _ h => h) (Or.inl ⟨by rfl, ?y4c⟩) (by assumption) ?r4c)
                    case y4c =>
                      intro w hSw
                      obtain ⟨⟨⟨hs0, hs1⟩, ⟨hs2, hs3⟩, hs4, hs5⟩, -⟩ := hSw
                      go_simp
                      all_goals (with_reducible rfl)
                    (try go_frame)
                    (refine wpAnyH_take (i := 5) (v := ?v5c) (by simp only [List.getElem?_toArray, List.getElem?_cons_succ, List.getElem?_cons_zero]; rfl) (by kernel_rfl) (by kernel_rfl) (by kernel_rfl) (by exact fun _ _ _ h => h) (Or.inl ⟨by rfl, ?y5c⟩) (by assumption) ?r5c)
                    case y5c =>
                      intro w hSw
                      obtain ⟨⟨⟨hs0, hs1⟩, ⟨hs2, hs3⟩, hs4, hs5⟩, -⟩ := hSw
                      go_simp
                      all_goals (with_reducible rfl)
                    (try go_frame)
                    (refine wpAnyH_take (i := 6) (v := ?v6c) (by simp only [List.getElem?_toArray, List.getElem?_cons_succ, List.getElem?_cons_zero]; rfl) (by kernel_rfl) (by kernel_rfl) (by kernel_rfl) (by exact fun _ _ _ h => h) (Or.inl ⟨by rfl, ?y6c⟩) (by assumption) ?r6c)
                    case y6c =>
                      intro w hSw
                      obtain ⟨⟨⟨hs0, hs1⟩, ⟨hs2, hs3⟩, hs4, hs5⟩, -⟩ := hSw
                      go_simp
                      all_goals (with_reducible rfl)
                    (try go_frame)
                    (refine wpAnyH_take (i := 7) (v := ?v7c) (by simp only [List.getElem?_toArray, List.getElem?_cons_succ, List.getElem?_cons_zero]; rfl) (by kernel_rfl) (by kernel_rfl) (by kernel_rfl) (by exact fun _ _ _ h => h) (Or.inl ⟨by rfl, ?y7c⟩) (by assumption) ?r7c)
                    case y7c =>
                      intro w hSw
                      obtain ⟨⟨⟨hs0, hs1⟩, ⟨hs2, hs3⟩, hs4, hs5⟩, -⟩ := hSw
                      go_simp
                      all_goals (with_reducible rfl)
                    (try go_frame)
                    (refine wpAnyH_take (i := 8) (v := ?v8c) (by simp only [List.getElem?_toArray, List.getElem?_cons_succ, List.getElem?_cons_zero]; rfl) (by kernel_rfl) (by kernel_rfl) (by kernel_rfl) (by exact fun _ _ _ h => h) (Or.inl ⟨by rfl, ?y8c⟩) (by assumption) ?r8c)
                    case y8c =>
                      intro w hSw
                      obtain ⟨⟨⟨hs0, hs1⟩, ⟨hs2, hs3⟩, hs4, hs5⟩, -⟩ := hSw
                      go_simp
                      all_goals (with_reducible rfl)
                    (try go_frame)
                    (refine wpAnyH_take (i := 9) (v := ?v9c) (by simp only [List.getElem?_toArray, List.getElem?_cons_succ, List.getElem?_cons_zero]; rfl) (by kernel_rfl) (by kernel_rfl) (by kernel_rfl) (by exact fun _ _ _ h => h) (Or.inl ⟨by rfl, ?y9c⟩) (by assumption) ?r9c)
                    case y9c =>
                      intro w hSw
                      obtain ⟨⟨⟨hs0, hs1⟩, ⟨hs2, hs3⟩, hs4, hs5⟩, -⟩ := hSw
                      go_simp
                      all_goals (with_reducible rfl)
                    (try go_frame)
                    (refine wpAnyH_take (i := 10) (v := ?v10c) (by simp only [List.getElem?_toArray, List.getElem?_cons_succ, List.getElem?_cons_zero]; rfl) (by kernel_rfl) (by kernel_rfl) (by kernel_rfl) (by exact fun _ _ _ h => h) (Or.inl ⟨by rfl, ?y10c⟩) (by assumption) ?r10c)
                    case y10c =>
                      intro w hSw
                      obtain ⟨⟨⟨hs0, hs1⟩, ⟨hs2, hs3⟩, hs4, hs5⟩, -⟩ := hSw
                      go_simp
                      all_goals (with_reducible rfl)
                    (try go_frame)
                    (refine wpAnyH_take (i := 11) (v := ?v11c) (by simp only [List.getElem?_toArray, List.getElem?_cons_succ, List.getElem?_cons_zero]; rfl) (by kernel_rfl) (by kernel_rfl) (by kernel_rfl) (by exact fun _ _ _ h => h) (Or.inl ⟨by rfl, ?y11c⟩) (by assumption) ?r11c)
                    case y11c =>
                      intro w hSw
                      obtain ⟨⟨⟨hs0, hs1⟩, ⟨hs2, hs3⟩, hs4, hs5⟩, -⟩ := hSw
                      go_simp
                      all_goals (with_reducible rfl)
                    (try go_frame)
                    refine wpAnyH_ready (rs := [12]) (by kernel_rfl) (by simp) ?_
                    refine AllReadyH.cons (by simp only [List.getElem?_toArray, List.getElem?_cons_succ, List.getElem?_cons_zero]; rfl) (fun K hK => ?_) AllReadyH.nil
                    go_simp
                    (go_at_call 61; with_reducible refine (CIa.out _).mono ?_; rintro e wk ⟨rfl, rfl⟩)
                    refine hK.out _ _ ?_ (fun hHeld => ?_)
                    · assumption
                    clear hK K
                    (try go_frame)
                    (refine wpAnyH_take (i := 13) (v := ?v13c) (by simp only [List.getElem?_toArray, List.getElem?_cons_succ, List.getElem?_cons_zero]; rfl) (by kernel_rfl) (by kernel_rfl) (by kernel_rfl) (by exact fun _ _ _ h => h) (Or.inl ⟨by rfl, ?y13c⟩) (by assumption) ?r13c)
                    case y13c =>
                      intro w hSw
                      obtain ⟨⟨⟨hs0, hs1⟩, ⟨hs2, hs3⟩, hs4, hs5⟩, -⟩ := hSw
                      go_simp
                      all_goals (with_reducible rfl)
                    (try go_frame)
                    (refine wpAnyH_take (i := 14) (v := ?v14c) (by simp only [List.getElem?_toArray, List.getElem?_cons_succ, List.getElem?_cons_zero]; rfl) (by kernel_rfl) (by kernel_rfl) (by kernel_rfl) (by exact fun _ _ _ h => h) (Or.inl ⟨by rfl, ?y14c⟩) (by assumption) ?r14c)
                    case y14c =>
                      intro w hSw
                      obtain ⟨⟨⟨hs0, hs1⟩, ⟨hs2, hs3⟩, hs4, hs5⟩, -⟩ := hSw
                      go_simp
                      all_goals (with_reducible rfl)
                    (try go_frame)
                    (refine wpAnyH_take (i := 15) (v := ?v15c) (by simp only [List.getElem?_toArray, List.getElem?_cons_succ, List.getElem?_cons_zero]; rfl) (by kernel_rfl) (by kernel_rfl) (by kernel_rfl) (by exact fun _ _ _ h => h) (Or.inl ⟨by rfl, ?y15c⟩) (by assumption) ?r15c)
                    case y15c =>
                      intro w hSw
                      obtain ⟨⟨⟨hs0, hs1⟩, ⟨hs2, hs3⟩, hs4, hs5⟩, -⟩ := hSw
                      go_simp
                      all_goals (with_reducible rfl)
                    (try go_frame)
                    (refine wpAnyH_take (i := 16) (v := ?v16c) (by simp only [List.getElem?_toArray, List.getElem?_cons_succ, List.getElem?_cons_zero]; rfl) (by kernel_rfl) (by kernel_rfl) (by kernel_rfl) (by exact fun _ _ _ h => h) (Or.inl ⟨by rfl, ?y16c⟩) (by assumption) ?r16c)
                    case y16c =>
                      intro w hSw
                      obtain ⟨⟨⟨hs0, hs1⟩, ⟨hs2, hs3⟩, hs4, hs5⟩, -⟩ := hSw
                      go_simp
                      all_goals (with_reducible rfl)
                    (try go_frame)
                    (refine wpAnyH_take (i := 17) (v := ?v17c) (by simp only [List.getElem?_toArray, List.getElem?_cons_succ, List.getElem?_cons_zero]; rfl) (by kernel_rfl) (by kernel_rfl) (by kernel_rfl) (by exact fun _ _ _ h => h) (Or.inl ⟨by rfl, ?y17c⟩) (by assumption) ?r17c)
                    case y17c =>
                      intro w hSw
                      obtain ⟨⟨⟨hs0, hs1⟩, ⟨hs2, hs3⟩, hs4, hs5⟩, -⟩ := hSw
                      go_simp
                      all_goals (with_reducible rfl)
                    (try go_frame)
                    (refine wpAnyH_take (i := 18) (v := ?v18c) (by simp only [List.getElem?_toArray, List.getElem?_cons_succ, List.getElem?_cons_zero]; rfl) (by kernel_rfl) (by kernel_rfl) (by kernel_rfl) (by exact fun _ _ _ h => h) (Or.inl ⟨by rfl, ?y18c⟩) (by assumption) ?r18c)
                    case y18c =>
                      intro w hSw
                      obtain ⟨⟨⟨hs0, hs1⟩, ⟨hs2, hs3⟩, hs4, hs5⟩, -⟩ := hSw
                      go_simp
                      all_goals (with_reducible rfl)
                    (try go_frame)
                    (refine wpAnyH_take (i := 19) (v := ?v19c) (by simp only [List.getElem?_toArray, List.getElem?_cons_succ, List.getElem?_cons_zero]; rfl) (by kernel_rfl) (by kernel_rfl) (by kernel_rfl) (by exact fun _ _ _ h => h) (Or.inl ⟨by rfl, ?y19c⟩) (by assumption) ?r19c)
                    case y19c =>
                      intro w hSw
                      obtain ⟨⟨⟨hs0, hs1⟩, ⟨hs2, hs3⟩, hs4, hs5⟩, -⟩ := hSw
                      go_simp
                      all_goals (with_reducible rfl)
                    (try go_frame)
                    (refine wpAnyH_take (i := 20) (v := ?v20c) (by simp only [List.getElem?_toArray, List.getElem?_cons_succ, List.getElem?_cons_zero]; rfl) (by kernel_rfl) (by kernel_rfl) (by kernel_rfl) (by exact fun _ _ _ h => h) (Or.inl ⟨by rfl, ?y20c⟩) (by assumption) ?r20c)
                    case y20c =>
                      intro w hSw
                      obtain ⟨⟨⟨hs0, hs1⟩, ⟨hs2, hs3⟩, hs4, hs5⟩, -⟩ := hSw
                      go_simp
                      all_goals (with_reducible rfl)
                    (try go_frame)
                    (refine wpAnyH_take (i := 21) (v := ?v21c) (by simp only [List.getElem?_toArray, List.getElem?_cons_succ, List.getElem?_cons_zero]; rfl) (by kernel_rfl) (by kernel_rfl) (by kernel_rfl) (by exact fun _ _ _ h => h) (Or.inl ⟨by rfl, ?y21c⟩) (by assumption) ?r21c)
                    case y21c =>
                      intro w hSw
                      obtain ⟨⟨⟨hs0, hs1⟩, ⟨hs2, hs3⟩, hs4, hs5⟩, -⟩ := hSw
                      go_simp
                      all_goals (with_reducible rfl)
                    (try go_frame)
                    (refine wpAnyH_take (i := 22) (v := ?v22c) (by simp only [List.getElem?_toArray, List.getElem?_cons_succ, List.getElem?_cons_zero]; rfl) (by kernel_rfl) (by kernel_rfl) (by kernel_rfl) (by exact fun _ _ _ h => h) (Or.inl ⟨by rfl, ?y22c⟩) (by assumption) ?r22c)
                    case y22c =>
                      intro w hSw
                      obtain ⟨⟨⟨hs0, hs1⟩, ⟨hs2, hs3⟩, hs4, hs5⟩, -⟩ := hSw
                      go_simp
                      all_goals (with_reducible rfl)
                    (try go_frame)
                    (refine wpAnyH_take (i := 23) (v := ?v23c) (by simp only [List.getElem?_toArray, List.getElem?_cons_succ, List.getElem?_cons_zero]; rfl) (by kernel_rfl) (by kernel_rfl) (by kernel_rfl) (by exact fun _ _ _ h => h) (Or.inl ⟨by rfl, ?y23c⟩) (by assumption) ?r23c)
                    case y23c =>
                      intro w hSw
                      obtain ⟨⟨⟨hs0, hs1⟩, ⟨hs2, hs3⟩, hs4, hs5⟩, -⟩ := hSw
                      go_simp
                      all_goals (with_reducible rfl)
                    (try go_frame)
                    refine wpAnyH_ready (rs := [24]) (by kernel_rfl) (by simp) ?_
                    refine AllReadyH.cons (by simp only [List.getElem?_toArray, List.getElem?_cons_succ, List.getElem?_cons_zero]; rfl) (fun K hK => ?_) AllReadyH.nil
                    go_simp
                    (go_at_call 61; with_reducible refine (CIb.out _).mono ?_; rintro e wk ⟨rfl, rfl⟩)
                    refine hK.out _ _ ?_ (fun hHeld => ?_)
                    · assumption
                    clear hK K
                    (try go_frame)
                    (refine wpAnyH_take (i := 25) (v := ?v25c) (by simp only [List.getElem?_toArray, List.getElem?_cons_succ, List.getElem?_cons_zero]; rfl) (by kernel_rfl) (by kernel_rfl) (by kernel_rfl) (by exact fun _ _ _ h => h) (Or.inl ⟨by rfl, ?y25c⟩) (by assumption) ?r25c)
                    case y25c =>
                      intro w hSw
                      obtain ⟨⟨⟨hs0, hs1⟩, ⟨hs2, hs3⟩, hs4, hs5⟩, -⟩ := hSw
                      go_simp
                      all_goals (with_reducible rfl)
                    (try go_frame)
                    (refine wpAnyH_take (i := 26) (v := ?v26c) (by simp only [List.getElem?_toArray, List.getElem?_cons_succ, List.getElem?_cons_zero]; rfl) (by kernel_rfl) (by kernel_rfl) (by kernel_rfl) (by exact fun _ _ _ h => h) (Or.inl ⟨by rfl, ?y26c⟩) (by assumption) ?r26c)
                    case y26c =>
                      intro w hSw
                      obtain ⟨⟨⟨hs0, hs1⟩, ⟨hs2, hs3⟩, hs4, hs5⟩, -⟩ := hSw
                      go_simp
                      all_goals (with_reducible rfl)
                    (try go_frame)
                    (refine wpAnyH_take (i := 27) (v := ?v27c) (by simp only [List.getElem?_toArray, List.getElem?_cons_succ, List.getElem?_cons_zero]; rfl) (by kernel_rfl) (by kernel_rfl) (by kernel_rfl) (by exact fun _ _ _ h => h) (Or.inl ⟨by rfl, ?y27c⟩) (by assumption) ?r27c)
                    case y27c =>
                      intro w hSw
                      obtain ⟨⟨⟨hs0, hs1⟩, ⟨hs2, hs3⟩, hs4, hs5⟩, -⟩ := hSw
                      go_simp
                      all_goals (with_reducible rfl)
                    (try go_frame)
                    (refine wpAnyH_take (i := 28) (v := ?v28c) (by simp only [List.getElem?_toArray, List.getElem?_cons_succ, List.getElem?_cons_zero]; rfl) (by kernel_rfl) (by kernel_rfl) (by kernel_rfl) (by exact fun _ _ _ h => h) (Or.inl ⟨by rfl, ?y28c⟩) (by assumption) ?r28c)
                    case y28c =>
                      intro w hSw
                      obtain ⟨⟨⟨hs0, hs1⟩, ⟨hs2, hs3⟩, hs4, hs5⟩, -⟩ := hSw
                      go_simp
                      all_goals (with_reducible rfl)
                    (try go_frame)
                    (refine wpAnyH_take (i := 29) (v := ?v29c) (by simp only [List.getElem?_toArray, List.getElem?_cons_succ, List.getElem?_cons_zero]; rfl) (by kernel_rfl) (by kernel_rfl) (by kernel_rfl) (by exact fun _ _ _ h => h) (Or.inl ⟨by rfl, ?y29c⟩) (by assumption) ?r29c)
                    case y29c =>
                      intro w hSw
                      obtain ⟨⟨⟨hs0, hs1⟩, ⟨hs2, hs3⟩, hs4, hs5⟩, -⟩ := hSw
                      go_simp
                      all_goals (with_reducible rfl)
                    (try go_frame)
                    (refine wpAnyH_take (i := 30) (v := ?v30c) (by simp only [List.getElem?_toArray, List.getElem?_cons_succ, List.getElem?_cons_zero]; rfl) (by kernel_rfl) (by kernel_rfl) (by kernel_rfl) (by exact fun _ _ _ h => h) (Or.inl ⟨by rfl, ?y30c⟩) (by assumption) ?r30c)
                    case y30c =>
                      intro w hSw
                      obtain ⟨⟨⟨hs0, hs1⟩, ⟨hs2, hs3⟩, hs4, hs5⟩, -⟩ := hSw
                      go_simp
                      all_goals (with_reducible rfl)
                    (try go_frame)
                    (refine wpAnyH_take (i := 31) (v := ?v31c) (by simp only [List.getElem?_toArray, List.getElem?_cons_succ, List.getElem?_cons_zero]; rfl) (by kernel_rfl) (by kernel_rfl) (by kernel_rfl) (by exact fun _ _ _ h => h) (Or.inl ⟨by rfl, ?y31c⟩) (by assumption) ?r31c)
                    case y31c =>
                      intro w hSw
                      obtain ⟨⟨⟨hs0, hs1⟩, ⟨hs2, hs3⟩, hs4, hs5⟩, -⟩ := hSw
                      go_simp
                      all_goals (with_reducible rfl)
                    (try go_frame)
                    (refine wpAnyH_take (i := 33) (v := ?v33c) (by simp only [List.getElem?_toArray, List.getElem?_cons_succ, List.getElem?_cons_zero]; rfl) (by kernel_rfl) (by kernel_rfl) (by kernel_rfl) (by exact fun _ _ _ h => h) (Or.inl ⟨by rfl, ?y33c⟩) (by assumption) ?r33c)
                    case y33c =>
                      intro w hSw
                      obtain ⟨⟨⟨hs0, hs1⟩, ⟨hs2, hs3⟩, hs4, hs5⟩, -⟩ := hSw
                      go_simp
                      all_goals (with_reducible rfl)
                    (try go_frame)
                    (refine wpAnyH_take (i := 34) (v := ?v34c) (by simp only [List.getElem?_toArray, List.getElem?_cons_succ, List.getElem?_cons_zero]; rfl) (by kernel_rfl) (by kernel_rfl) (by kernel_rfl) (by exact fun _ _ _ h => h) (Or.inl ⟨by rfl, ?y34c⟩) (by assumption) ?r34c)
                    case y34c =>
                      intro w hSw
                      obtain ⟨⟨⟨hs0, hs1⟩, ⟨hs2, hs3⟩, hs4, hs5⟩, -⟩ := hSw
                      go_simp
                      all_goals (with_reducible rfl)
                    (try go_frame)
                    (refine wpAnyH_take (i := 35) (v := ?v35c) (by simp only [List.getElem?_toArray, List.getElem?_cons_succ, List.getElem?_cons_zero]; rfl) (by kernel_rfl) (by kernel_rfl) (by kernel_rfl) (by exact fun _ _ _ h => h) (Or.inl ⟨by rfl, ?y35c⟩) (by assumption) ?r35c)
                    case y35c =>
                      intro w hSw
                      obtain ⟨⟨⟨hs0, hs1⟩, ⟨hs2, hs3⟩, hs4, hs5⟩, -⟩ := hSw
                      go_simp
                      all_goals (with_reducible rfl)
                    (try go_frame)
                    (refine wpAnyH_take (i := 36) (v := ?v36c) (by simp only [List.getElem?_toArray, List.getElem?_cons_succ, List.getElem?_cons_zero]; rfl) (by kernel_rfl) (by kernel_rfl) (by kernel_rfl) (by exact fun _ _ _ h => h) (Or.inl ⟨by rfl, ?y36c⟩) (by assumption) ?r36c)
                    case y36c =>
                      intro w hSw
                      obtain ⟨⟨⟨hs0, hs1⟩, ⟨hs2, hs3⟩, hs4, hs5⟩, -⟩ := hSw
                      go_simp
                      all_goals (with_reducible rfl)
                    (try go_frame)
                    refine wpAnyH_ready (rs := [32]) (by kernel_rfl) (by simp) ?_
                    refine AllReadyH.cons (by simp only [List.getElem?_toArray, List.getElem?_cons_succ, List.getElem?_cons_zero]; rfl) (fun K hK => ?_) AllReadyH.nil
                    go_simp
                    (go_at_call 62; with_reducible refine (EA.out _ (And.right (show HeldXS w1.heap.size w2.heap.size gr o2 (.slice a1 nE c1) (.slice a2 nE c2) (.slice b1 nF d1) (.slice b2 nF d2) (.int .i64 (p : Nat)) (.int .i64 (q : Nat)) wr _ by assumption))).mono ?_; rintro e wk ⟨rfl, yk⟩)
                    refine hK.out _ _ ?_ (fun hHeld => ?_)
                    · exact HeldXS.more (by assumption) yk
                    clear hK K
                    (try go_frame)
                    refine wpAnyH_ready (rs := [37]) (by kernel_rfl) (by simp) ?_
                    refine AllReadyH.cons (by simp only [List.getElem?_toArray, List.getElem?_cons_succ, List.getElem?_cons_zero]; rfl) (fun K hK => ?_) AllReadyH.nil
                    go_simp
                    (go_at_call 62; with_reducible refine (EB.out _ (And.right (show HeldXS w1.heap.size w2.heap.size gr o2 (.slice a1 nE c1) (.slice a2 nE c2) (.slice b1 nF d1) (.slice b2 nF d2) (.int .i64 (p : Nat)) (.int .i64 (q : Nat)) wr _ by assumption))).mono ?_; rintro e wk ⟨rfl, yk⟩)
                    refine hK.out _ _ ?_ (fun hHeld => ?_)
                    · exact HeldXS.more (by assumption) yk
                    clear hK K
                    (try go_frame)
                    (refine wpAnyH_take (i := 38) (v := ?v38c) (by simp only [List.getElem?_toArray, List.getElem?_cons_succ, List.getElem?_cons_zero]; rfl) (by kernel_rfl) (by kernel_rfl) (by kernel_rfl) (by exact fun _ _ _ h => h) (Or.inl ⟨by rfl, ?y38c⟩) (by assumption) ?r38c)
                    case y38c =>
                      intro w hSw
                      obtain ⟨⟨⟨hs0, hs1⟩, ⟨hs2, hs3⟩, hs4, hs5⟩, -⟩ := hSw
                      go_simp
                      all_goals (with_reducible rfl)
                    (try go_frame)
                    (refine wpAnyH_take (i := 39) (v := ?v39c) (by simp only [List.getElem?_toArray, List.getElem?_cons_succ, List.getElem?_cons_zero]; rfl) (by kernel_rfl) (by kernel_rfl) (by kernel_rfl) (by exact fun _ _ _ h => h) (Or.inl ⟨by rfl, ?y39c⟩) (by assumption) ?r39c)
                    case y39c =>
                      intro w hSw
                      obtain ⟨⟨⟨hs0, hs1⟩, ⟨hs2, hs3⟩, hs4, hs5⟩, -⟩ := hSw
                      go_simp
                      all_goals (with_reducible rfl)
                    (try go_frame)
                    refine wpAnyH_done (by kernel_rfl) ?_ _
                    go_wp2
                    go_ret
                    exact ⟨by rw [HF2.out]; rfl, X0W.out.trans (And.right (show HeldXS w1.heap.size w2.heap.size gr o2 (.slice a1 nE c1) (.slice a2 nE c2) (.slice b1 nF d1) (.slice b2 nF d2) (.int .i64 (p : Nat)) (.int .i64 (q : Nat)) wr _ by assumption))⟩
            · have hrb : rowB nE nF (rowI L k) = false := by unfold rowB; rw [decide_eq_false hl]; rfl
              have HF2 := Lib.hid (HBad1.out (.inl hrb))
              have hl' : (((rowI L k).length : Int) != 2) = true := by simp; omega
              have hl'' : ¬ (((rowI L k).length : Int) = 2) := by omega
              clear hrb hl HBad1 HBad HAll1 HOk s1 s2
              generalize (rowI L k).length = nr at *
              go_wp2
              have K0d : Ext wr wr.drew := by (repeat (first | exact Ext.refl _ | assumption | refine Ext.alloc ?_ _ | refine Ext.drewN ?_ _ | refine Ext.drew ?_))
              refine wp_region_held_drew (S := Ext wr) (by kernel_rfl) K0d (fun hHeld => ?_)
              (refine wpAnyH_take (i := 0) (v := ?v0d) (by simp only [List.getElem?_toArray, List.getElem?_cons_zero]; rfl) (by kernel_rfl) (by kernel_rfl) (by kernel_rfl) (by exact fun _ _ _ h => h) (Or.inl ⟨by rfl, ?y0d⟩) (by assumption) ?r0d)
              case y0d =>
                intro w hSw
                skip
                go_simp
                all_goals (with_reducible rfl)
              (try go_frame)
              (refine wpAnyH_take (i := 1) (v := ?v1d) (by simp only [List.getElem?_toArray, List.getElem?_cons_succ, List.getElem?_cons_zero]; rfl) (by kernel_rfl) (by kernel_rfl) (by kernel_rfl) (by exact fun _ _ _ h => h) (Or.inl ⟨by rfl, ?y1d⟩) (by assumption) ?r1d)
              case y1d =>
                intro w hSw
                skip
                go_simp
                all_goals (with_reducible rfl)
              (try go_frame)
              (refine wpAnyH_take (i := 2) (v := ?v2d) (by simp only [List.getElem?_toArray, List.getElem?_cons_succ, List.getElem?_cons_zero]; rfl) (by kernel_rfl) (by kernel_rfl) (by kernel_rfl) (by exact fun _ _ _ h => h) (Or.inl ⟨by rfl, ?y2d⟩) (by assumption) ?r2d)
              case y2d =>
                intro w hSw
                skip
                go_simp
                all_goals (with_reducible rfl)
              (try go_frame)
              (refine wpAnyH_take (i := 3) (v := ?v3d) (by simp only [List.getElem?_toArray, List.getElem?_cons_succ, List.getElem?_cons_zero]; rfl) (by kernel_rfl) (by kernel_rfl) (by kernel_rfl) (by exact fun _ _ _ h => h) (Or.inl ⟨by rfl, ?y3d⟩) (by assumption) ?r3d)
              case y3d =>
                intro w hSw
                skip
                go_simp
                all_goals (with_reducible rfl)
              (try go_frame)
              (refine wpAnyH_take (i := 4) (v := undef) (by simp only [List.getElem?_toArray, List.getElem?_cons_succ, List.getElem?_cons_zero]; rfl) (by kernel_rfl) (by kernel_rfl) (by kernel_rfl) (by exact fun _ _ _ h => h) (Or.inr ⟨by rfl, rfl⟩) (by assumption) ?_)
              (try go_frame)
              (refine wpAnyH_take (i := 5) (v := undef) (by simp only [List.getElem?_toArray, List.getElem?_cons_succ, List.getElem?_cons_zero]; rfl) (by kernel_rfl) (by kernel_rfl) (by kernel_rfl) (by exact fun _ _ _ h => h) (Or.inr ⟨by rfl, rfl⟩) (by assumption) ?_)
              (try go_frame)
              (refine wpAnyH_take (i := 6) (v := undef) (by simp only [List.getElem?_toArray, List.getElem?_cons_succ, List.getElem?_cons_zero]; rfl) (by kernel_rfl) (by kernel_rfl) (by kernel_rfl) (by exact fun _ _ _ h => h) (Or.inr ⟨by rfl, rfl⟩) (by assumption) ?_)
              (try go_frame)
              (refine wpAnyH_take (i := 7) (v := undef) (by simp only [List.getElem?_toArray, List.getElem?_cons_succ, List.getElem?_cons_zero]; rfl) (by kernel_rfl) (by kernel_rfl) (by kernel_rfl) (by exact fun _ _ _ h => h) (Or.inr ⟨by rfl, rfl⟩) (by assumption) ?_)
              (try go_frame)
              (refine wpAnyH_take (i := 8) (v := undef) (by simp only [List.getElem?_toArray, List.getElem?_cons_succ, List.getElem?_cons_zero]; rfl) (by kernel_rfl) (by kernel_rfl) (by kernel_rfl) (by exact fun _ _ _ h => h) (Or.inr ⟨by rfl, rfl⟩) (by assumption) ?_)
              (try go_frame)
              (refine wpAnyH_take (i := 9) (v := undef) (by simp only [List.getElem?_toArray, List.getElem?_cons_succ, List.getElem?_cons_zero]; rfl) (by kernel_rfl) (by kernel_rfl) (by kernel_rfl) (by exact fun _ _ _ h => h) (Or.inr ⟨by rfl, rfl⟩) (by assumption) ?_)
              (try go_frame)
              (refine wpAnyH_take (i := 10) (v := undef) (by simp only [List.getElem?_toArray, List.getElem?_cons_succ, List.getElem?_cons_zero]; rfl) (by kernel_rfl) (by kernel_rfl) (by kernel_rfl) (by exact fun _ _ _ h => h) (Or.inr ⟨by rfl, rfl⟩) (by assumption) ?_)
              (try go_frame)
              (refine wpAnyH_take (i := 11) (v := undef) (by simp only [List.getElem?_toArray, List.getElem?_cons_succ, List.getElem?_cons_zero]; rfl) (by kernel_rfl) (by kernel_rfl) (by kernel_rfl) (by exact fun _ _ _ h => h) (Or.inr ⟨by rfl, rfl⟩) (by assumption) ?_)
              (try go_frame)
              (refine wpAnyH_take (i := 12) (v := undef) (by simp only [List.getElem?_toArray, List.getElem?_cons_succ, List.getElem?_cons_zero]; rfl) (by kernel_rfl) (by kernel_rfl) (by kernel_rfl) (by exact fun _ _ _ h => h) (Or.inr ⟨by rfl, rfl⟩) (by assumption) ?_)
              (try go_frame)
              (refine wpAnyH_take (i := 13) (v := undef) (by simp only [List.getElem?_toArray, List.getElem?_cons_succ, List.getElem?_cons_zero]; rfl) (by kernel_rfl) (by kernel_rfl) (by kernel_rfl) (by exact fun _ _ _ h => h) (Or.inr ⟨by rfl, rfl⟩) (by assumption) ?_)
              (try go_frame)
              (refine wpAnyH_take (i := 14) (v := ?v14d) (by simp only [List.getElem?_toArray, List.getElem?_cons_succ, List.getElem?_cons_zero]; rfl) (by kernel_rfl) (by kernel_rfl) (by kernel_rfl) (by exact fun _ _ _ h => h) (Or.inl ⟨by rfl, ?y14d⟩) (by assumption) ?r14d)
              case y14d =>
                intro w hSw
                skip
                go_simp
                all_goals (with_reducible rfl)
              (try go_frame)
              (refine wpAnyH_take (i := 15) (v := ?v15d) (by simp only [List.getElem?_toArray, List.getElem?_cons_succ, List.getElem?_cons_zero]; rfl) (by kernel_rfl) (by kernel_rfl) (by kernel_rfl) (by exact fun _ _ _ h => h) (Or.inl ⟨by rfl, ?y15d⟩) (by assumption) ?r15d)
              case y15d =>
                intro w hSw
                skip
                go_simp
                all_goals (with_reducible rfl)
              (try go_frame)
              (refine wpAnyH_take (i := 16) (v := undef) (by simp only [List.getElem?_toArray, List.getElem?_cons_succ, List.getElem?_cons_zero]; rfl) (by kernel_rfl) (by kernel_rfl) (by kernel_rfl) (by exact fun _ _ _ h => h) (Or.inr ⟨by rfl, rfl⟩) (by assumption) ?_)
              (try go_frame)
              (refine wpAnyH_take (i := 17) (v := undef) (by simp only [List.getElem?_toArray, List.getElem?_cons_succ, List.getElem?_cons_zero]; rfl) (by kernel_rfl) (by kernel_rfl) (by kernel_rfl) (by exact fun _ _ _ h => h) (Or.inr ⟨by rfl, rfl⟩) (by assumption) ?_)
              (try go_frame)
              (refine wpAnyH_take (i := 18) (v := undef) (by simp only [List.getElem?_toArray, List.getElem?_cons_succ, List.getElem?_cons_zero]; rfl) (by kernel_rfl) (by kernel_rfl) (by kernel_rfl) (by exact fun _ _ _ h => h) (Or.inr ⟨by rfl, rfl⟩) (by assumption) ?_)
              (try go_frame)
              (refine wpAnyH_take (i := 19) (v := undef) (by simp only [List.getElem?_toArray, List.getElem?_cons_succ, List.getElem?_cons_zero]; rfl) (by kernel_rfl) (by kernel_rfl) (by kernel_rfl) (by exact fun _ _ _ h => h) (Or.inr ⟨by rfl, rfl⟩) (by assumption) ?_)
              (try go_frame)
              (refine wpAnyH_take (i := 20) (v := undef) (by simp only [List.getElem?_toArray, List.getElem?_cons_succ, List.getElem?_cons_zero]; rfl) (by kernel_rfl) (by kernel_rfl) (by kernel_rfl) (by exact fun _ _ _ h => h) (Or.inr ⟨by rfl, rfl⟩) (by assumption) ?_)
              (try go_frame)
              (refine wpAnyH_take (i := 21) (v := undef) (by simp only [List.getElem?_toArray, List.getElem?_cons_succ, List.getElem?_cons_zero]; rfl) (by kernel_rfl) (by kernel_rfl) (by kernel_rfl) (by exact fun _ _ _ h => h) (Or.inr ⟨by rfl, rfl⟩) (by assumption) ?_)
              (try go_frame)
              (refine wpAnyH_take (i := 22) (v := undef) (by simp only [List.getElem?_toArray, List.getElem?_cons_succ, List.getElem?_cons_zero]; rfl) (by kernel_rfl) (by kernel_rfl) (by kernel_rfl) (by exact fun _ _ _ h => h) (Or.inr ⟨by rfl, rfl⟩) (by assumption) ?_)
              (try go_frame)
              (refine wpAnyH_take (i := 23) (v := undef) (by simp only [List.getElem?_toArray, List.getElem?_cons_succ, List.getElem?_cons_zero]; rfl) (by kernel_rfl) (by kernel_rfl) (by kernel_rfl) (by exact fun _ _ _ h => h) (Or.inr ⟨by rfl, rfl⟩) (by assumption) ?_)
              (try go_frame)
              (refine wpAnyH_take (i := 24) (v := undef) (by simp only [List.getElem?_toArray, List.getElem?_cons_succ, List.getElem?_cons_zero]; rfl) (by kernel_rfl) (by kernel_rfl) (by kernel_rfl) (by exact fun _ _ _ h => h) (Or.inr ⟨by rfl, rfl⟩) (by assumption) ?_)
              (try go_frame)
              (refine wpAnyH_take (i := 25) (v := undef) (by simp only [List.getElem?_toArray, List.getElem?_cons_succ, List.getElem?_cons_zero]; rfl) (by kernel_rfl) (by kernel_rfl) (by kernel_rfl) (by exact fun _ _ _ h => h) (Or.inr ⟨by rfl, rfl⟩) (by assumption) ?_)
              (try go_frame)
              (refine wpAnyH_take (i := 26) (v := ?v26d) (by simp only [List.getElem?_toArray, List.getElem?_cons_succ, List.getElem?_cons_zero]; rfl) (by kernel_rfl) (by kernel_rfl) (by kernel_rfl) (by exact fun _ _ _ h => h) (Or.inl ⟨by rfl, ?y26d⟩) (by assumption) ?r26d)
              case y26d =>
                intro w hSw
                skip
                go_simp
                all_goals (with_reducible rfl)
              (try go_frame)
              (refine wpAnyH_take (i := 27) (v := ?v27d) (by simp only [List.getElem?_toArray, List.getElem?_cons_succ, List.getElem?_cons_zero]; rfl) (by kernel_rfl) (by kernel_rfl) (by kernel_rfl) (by exact fun _ _ _ h => h) (Or.inl ⟨by rfl, ?y27d⟩) (by assumption) ?r27d)
              case y27d =>
                intro w hSw
                skip
                go_simp
                all_goals (with_reducible rfl)
              (try go_frame)
              (refine wpAnyH_take (i := 28) (v := undef) (by simp only [List.getElem?_toArray, List.getElem?_cons_succ, List.getElem?_cons_zero]; rfl) (by kernel_rfl) (by kernel_rfl) (by kernel_rfl) (by exact fun _ _ _ h => h) (Or.inr ⟨by rfl, rfl⟩) (by assumption) ?_)
              (try go_frame)
              (refine wpAnyH_take (i := 29) (v := undef) (by simp only [List.getElem?_toArray, List.getElem?_cons_succ, List.getElem?_cons_zero]; rfl) (by kernel_rfl) (by kernel_rfl) (by kernel_rfl) (by exact fun _ _ _ h => h) (Or.inr ⟨by rfl, rfl⟩) (by assumption) ?_)
              (try go_frame)
              (refine wpAnyH_take (i := 30) (v := undef) (by simp only [List.getElem?_toArray, List.getElem?_cons_succ, List.getElem?_cons_zero]; rfl) (by kernel_rfl) (by kernel_rfl) (by kernel_rfl) (by exact fun _ _ _ h => h) (Or.inr ⟨by rfl, rfl⟩) (by assumption) ?_)
              (try go_frame)
              (refine wpAnyH_take (i := 31) (v := undef) (by simp only [List.getElem?_toArray, List.getElem?_cons_succ, List.getElem?_cons_zero]; rfl) (by kernel_rfl) (by kernel_rfl) (by kernel_rfl) (by exact fun _ _ _ h => h) (Or.inr ⟨by rfl, rfl⟩) (by assumption) ?_)
              (try go_frame)
              (refine wpAnyH_take (i := 32) (v := undef) (by simp only [List.getElem?_toArray, List.getElem?_cons_succ, List.getElem?_cons_zero]; rfl) (by kernel_rfl) (by kernel_rfl) (by kernel_rfl) (by exact fun _ _ _ h => h) (Or.inr ⟨by rfl, rfl⟩) (by assumption) ?_)
              (try go_frame)
              (refine wpAnyH_take (i := 33) (v := undef) (by simp only [List.getElem?_toArray, List.getElem?_cons_succ, List.getElem?_cons_zero]; rfl) (by kernel_rfl) (by kernel_rfl) (by kernel_rfl) (by exact fun _ _ _ h => h) (Or.inr ⟨by rfl, rfl⟩) (by assumption) ?_)
              (try go_frame)
              (refine wpAnyH_take (i := 34) (v := undef) (by simp only [List.getElem?_toArray, List.getElem?_cons_succ, List.getElem?_cons_zero]; rfl) (by kernel_rfl) (by kernel_rfl) (by kernel_rfl) (by exact fun _ _ _ h => h) (Or.inr ⟨by rfl, rfl⟩) (by assumption) ?_)
              (try go_frame)
              (refine wpAnyH_take (i := 35) (v := undef) (by simp only [List.getElem?_toArray, List.getElem?_cons_succ, List.getElem?_cons_zero]; rfl) (by kernel_rfl) (by kernel_rfl) (by kernel_rfl) (by exact fun _ _ _ h => h) (Or.inr ⟨by rfl, rfl⟩) (by assumption) ?_)
              (try go_frame)
              (refine wpAnyH_take (i := 36) (v := undef) (by simp only [List.getElem?_toArray, List.getElem?_cons_succ, List.getElem?_cons_zero]; rfl) (by kernel_rfl) (by kernel_rfl) (by kernel_rfl) (by exact fun _ _ _ h => h) (Or.inr ⟨by rfl, rfl⟩) (by assumption) ?_)
              (try go_frame)
              (refine wpAnyH_take (i := 37) (v := undef) (by simp only [List.getElem?_toArray, List.getElem?_cons_succ, List.getElem?_cons_zero]; rfl) (by kernel_rfl) (by kernel_rfl) (by kernel_rfl) (by exact fun _ _ _ h => h) (Or.inr ⟨by rfl, rfl⟩) (by assumption) ?_)
              (try go_frame)
              (refine wpAnyH_take (i := 38) (v := undef) (by simp only [List.getElem?_toArray, List.getElem?_cons_succ, List.getElem?_cons_zero]; rfl) (by kernel_rfl) (by kernel_rfl) (by kernel_rfl) (by exact fun _ _ _ h => h) (Or.inr ⟨by rfl, rfl⟩) (by assumption) ?_)
              (try go_frame)
              (refine wpAnyH_take (i := 39) (v := ?v39d) (by simp only [List.getElem?_toArray, List.getElem?_cons_succ, List.getElem?_cons_zero]; rfl) (by kernel_rfl) (by kernel_rfl) (by kernel_rfl) (by exact fun _ _ _ h => h) (Or.inl ⟨by rfl, ?y39d⟩) (by assumption) ?r39d)
              case y39d =>
                intro w hSw
                skip
                go_simp
                all_goals (with_reducible rfl)
              (try go_frame)
              refine wpAnyH_done (by kernel_rfl) ?_ _
              go_wp2
              go_ret
              exact ⟨by rw [HF2.out]; rfl, X0W.out.trans (show Ext wr _ by assumption)⟩
          · obtain rfl : k = nL := by omega
            have HF2 := Lib.hid (HAll1.out HOk.out)
            clear HBad HAll1 HOk
            go_wp2
            go_ret
            exact ⟨by rw [HF2.out]; rfl, X2.out.trans (Ext.trans ((Ext.refl _).alloc _) (X3.out.trans HX.out))⟩
      · have HF2 := Lib.hid (HFew.out (fun h => h11 h.2))
        have h11' : hasP L (1, 1) = false := by simpa using h11
        rw [h11'] at C11
        clear HAll HFew HBad h11 h11' hone
        go_wp2_with (go_at_call 60; refine C11.out.mono ?_; rintro e w3 ⟨rfl, y3⟩; have X3 := Lib.hid y3; clear y3)
        go_ret
        exact ⟨by rw [HF2.out]; rfl, X2.out.trans (Ext.trans ((Ext.refl _).alloc _) (X3.out.trans (by (repeat (first | exact Ext.refl _ | assumption | refine Ext.alloc ?_ _ | refine Ext.drewN ?_ _ | refine Ext.drew ?_)))))⟩
    · have HF2 := Lib.hid (HFew.out (fun h => h100 h.1))
      have h100i : (100 < (nL : Int)) := by omega
      clear HAll HFew HBad
      go_wp2
      go_ret
      exact ⟨by rw [HF2.out]; rfl, X2.out.trans (by (repeat (first | exact Ext.refl _ | assumption | refine Ext.alloc ?_ _ | refine Ext.drewN ?_ _ | refine Ext.drew ?_)))⟩
  · have HF : Hid (okB e f L = false) := by
      unfold Hid okB
      rw [show (auB e && auB f) = false by simpa using hb]; rfl
    rw [HF.out]
    have hor : auE e = [] ∨ (1 ≤ (auE e).length ∧ auE f = []) := by
      cases h1 : auB e
      · exact .inl (auE_off h1)
      · refine .inr ⟨auE_pos h1, auE_off ?_⟩
        rw [h1, Bool.true_and] at hb
        simpa using hb
    generalize hne : e.length = ne at *
    generalize hnf : f.length = nf at *
    clear hne hnf HF hb CH HLr
    go_enter Tryz.func12, Tryz.ntmps12
    go_wp2_with fail
    refine (CA.out _ (by (repeat (first | exact Ext.refl _ | assumption | refine Ext.alloc ?_ _ | refine Ext.drewN ?_ _ | refine Ext.drew ?_)))).mono ?_
    rintro r w1 ⟨a1, c1, a2, c2, rfl, r1, x1⟩
    have X1 := Lib.hid (Ext.trans (show Ext w _ by (repeat (first | exact Ext.refl _ | assumption | refine Ext.alloc ?_ _ | refine Ext.drewN ?_ _ | refine Ext.drew ?_))) x1)
    clear r1 x1 CA
    go_wp2_with fail
    refine (CB.out _ (X1.out.trans (by (repeat (first | exact Ext.refl _ | assumption | refine Ext.alloc ?_ _ | refine Ext.drewN ?_ _ | refine Ext.drew ?_))))).mono ?_
    rintro r w2 ⟨b1, d1, b2, d2, rfl, r2, x2⟩
    have p0 : w2.cell? ⟨w1.heap.size, 0, none⟩ = some (.slice a1 (auE e).length c1) := x2.cell' (by simp [go_sem]) (by simp)
    have X2 := Lib.hid (X1.out.trans (Ext.trans (by (repeat (first | exact Ext.refl _ | assumption | refine Ext.alloc ?_ _ | refine Ext.drewN ?_ _ | refine Ext.drew ?_))) x2))
    have hz12 := x2.size
    simp at hz12
    have p0' : (w2.alloc (.cells #[.slice b1 (auE f).length d1, .slice b2 (auN f).length d2] 63)).cell? ⟨w1.heap.size, 0, none⟩ = some (.slice a1 (auE e).length c1) := ((Ext.refl w2).alloc _).cell' p0 (by omega)
    have f0' : (w2.alloc (.cells #[.slice b1 (auE f).length d1, .slice b2 (auN f).length d2] 63)).cell? ⟨w2.heap.size, 0, none⟩ = some (.slice b1 (auE f).length d1) := by simp [go_sem]
    clear r2 x2 CB X1 p0
    generalize (auN e).length = nN at *
    generalize (auN f).length = nM at *
    rcases hor with h | ⟨h1, h2⟩
    · have h0 : (auE e).length = 0 := by rw [h]; rfl
      rw [h0] at p0'
      generalize (auE f).length = nF at *
      rw [h0]
      clear h h0
      go_wp2
      go_ret
      exact ⟨rfl, X2.out.trans (by (repeat (first | exact Ext.refl _ | assumption | refine Ext.alloc ?_ _ | refine Ext.drewN ?_ _ | refine Ext.drew ?_)))⟩
    · have h0 : (auE f).length = 0 := by rw [h2]; rfl
      rw [h0] at f0' p0'
      rw [h0]
      generalize (auE e).length = nE at *
      have hE0' : ((nE : Int) == 0) = false := by simp; omega
      have hE0 : ¬ ((nE : Int) = 0) := by omega
      clear h2 h0
      go_wp2
      go_ret
      exact ⟨rfl, X2.out.trans (by (repeat (first | exact Ext.refl _ | assumption | refine Ext.alloc ?_ _ | refine Ext.drewN ?_ _ | refine Ext.drew ?_)))⟩
end Go.Proofs.YtlaamecfknkmlaaGreat
