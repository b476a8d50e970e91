/- Merged texts: contracts and plain lemmas (Sp). -/
import Derived.Test.YtlaamecfknkmlaaGreatGt11
import Derived.Test.YtlaamecfknkmlaaGreatGt10
import Derived.Test.YtlaamecfknkmlaaGreatGt7
import Derived.Deep.RegionHeld3
namespace Go.Kt
set_option linter.unusedVariables false
theorem world_cut1 {K : Exit → Act → World → Prop} {e : Exit} {a : Act} {w0 w8 : World} (x : Ext w0 w8) (h : ∀ w9, Ext w0 w9 → K e a w9) : K e a w8 := h w8 x
theorem rowP_map {L : List (Nat × Nat)} {k : Nat} (h : k < L.length) : rowI (L.map rowP) k = rowP (atP L k) := by
  rw [rowI_getElem _ _ (by simpa using h), List.getElem_map, atP_getElem _ _ h]
theorem mem_rowP {L : List (Nat × Nat)} {p : Nat × Nat} : rowP p ∈ L.map rowP ↔ p ∈ L := by
  rw [List.mem_map]
  exact ⟨fun ⟨q, h1, h2⟩ => by rw [← rowP_inj h2]; exact h1, fun h => ⟨p, h, rfl⟩⟩
theorem mem_xy {L : List (Nat × Nat)} {p : Nat × Nat} : decide ([((p.1 : Nat) : Int), ((p.2 : Nat) : Int)] ∈ L.map rowP) = decide (p ∈ L) := by
  rw [decide_eq_decide]; exact mem_rowP
/-- What a step from a pair of a list loads. -/
abbrev HeldR (b g k gr o : Nat) (v0 v1 vs vx : Value) (w : World) : Prop := w.cell? ⟨b, 0, none⟩ = some v0 ∧ w.cell? ⟨b, 1, none⟩ = some v1 ∧ w.cell? ⟨g, k, none⟩ = some vs ∧ w.cell? ⟨gr, o, none⟩ = some vx
theorem HeldR.ext {b g k gr o : Nat} {v0 v1 vs vx : Value} {w w' : World} (h : HeldR b g k gr o v0 v1 vs vx w) (x : Ext w w') : HeldR b g k gr o v0 v1 vs vx w' :=
  ⟨x.cell' h.1 (lt_of_cell h.1), x.cell' h.2.1 (lt_of_cell h.2.1), x.cell' h.2.2.1 (lt_of_cell h.2.2.1), x.cell' h.2.2.2 (lt_of_cell h.2.2.2)⟩
/-- Where a row of two lies. -/
theorem IntsE.two {w : World} {E : Ek} {a : Option Addr} {p : Nat × Nat} (h : IntsE w E a (rowP p)) : ∃ b o, a = some ⟨b, o, none⟩ ∧ w.cell? ⟨b, o, none⟩ = some (.int .i64 (p.1 : Nat)) ∧ w.cell? ⟨b, o + 1, none⟩ = some (.int .i64 (p.2 : Nat)) := by
  obtain ⟨⟨b, o, h1, h2⟩, -⟩ := h
  have h0 := h2 0 (by simp [rowP])
  have h1' := h2 1 (by simp [rowP])
  rw [Nat.add_zero] at h0
  exact ⟨b, o, (h1 (by simp [rowP])).1, h0, h1'⟩
end Go.Kt
namespace Go.Proofs.YtlaamecfknkmlaaGreat
set_option linter.unusedVariables false
open Go.RowKit Go.Kt
set_option maxRecDepth 100000 in
set_option maxHeartbeats 8000000 in
theorem sPairsOf_c (a b : Option Addr) (c d : Nat) (e f : List Int) (w : World) (he : IntsAt w a e) (hf : IntsAt w b f) (hle : e.length ≤ 4194304) (hlf : f.length ≤ 4194304) (X : Nat → Prop) (hX : ∀ k, X k → k < w.heap.size) :
    Calls Tryz.prog 53 #[.slice a e.length c, .slice b f.length d] w (RetLs (Ek.mk 3 X) 23 w (prsF e f)) := by
  have CA : Hid (∀ w', Ext w w' → Calls Tryz.prog 59 #[.slice a e.length c] w' (RetAu w' e)) := fun w' x => sAutoOf_c a c e w' (he.ext x) hle
  have CB : Hid (∀ w', Ext w w' → Calls Tryz.prog 59 #[.slice b f.length d] w' (RetAu w' f)) := fun w' x => sAutoOf_c b d f w' (hf.ext x) hlf
  have HX0 : Hid (∀ B, w.heap.size ≤ B → ∀ k, B ≤ k → ¬ X k) := fun B hB k hk hx => by have := hX k hx; omega
  clear he hf hX
  by_cases hb : (auB e && auB f) = true
  · have h1 : auB e = true := by rw [Bool.and_eq_true] at hb; exact hb.1
    have h2 : auB f = true := by rw [Bool.and_eq_true] at hb; exact hb.2
    have HF : Hid (prsF e f = (prL (auN e) (auN f)).map rowP) := by unfold Hid prsF; rw [hb]; rfl
    have hA := auto_of e
    have hB := auto_of f
    have hp1 := auE_pos h1
    have hp2 := auE_pos h2
    have hLenA := hA.len
    have hLenB := hB.len
    have hTenA := hA.ten
    have hTenB := hB.ten
    have HLt : Hid (∀ k p, p ∈ clP (auN e) (auN f) k → p.1 < 4294967296 ∧ p.2 < 4294967296) := fun k p hp => by
      have := clP_lt hA hB hp1 hp2 k p hp
      have := two_10 hA
      have := two_10 hB
      omega
    have CX : Hid (∀ w' a1 c1 a2 c2 (p m : Nat), RowsAt w' a2 (auN e) → p < 4294967296 → m < 12 → Calls Tryz.prog 63 #[autV a1 (auE e).length c1 a2 (auN e).length c2, .int .i64 p, .int .i64 m] w' fun r w'' => r = .returned (.int .i64 (stp (auN e) p m : Nat)) ∧ Ext w' w'') :=
      fun w' a1 c1 a2 c2 p m hr hp hm => l5Step_c a1 a2 c1 c2 (auE e) (auN e) p m w' hr hA hp hm
    have CY : Hid (∀ w' a1 c1 a2 c2 (p m : Nat), RowsAt w' a2 (auN f) → p < 4294967296 → m < 12 → Calls Tryz.prog 63 #[autV a1 (auE f).length c1 a2 (auN f).length c2, .int .i64 p, .int .i64 m] w' fun r w'' => r = .returned (.int .i64 (stp (auN f) p m : Nat)) ∧ Ext w' w'') :=
      fun w' a1 c1 a2 c2 p m hr hp hm => l5Step_c a1 a2 c1 c2 (auE f) (auN f) p m w' hr hB hp hm
    have HR : Hid (∀ v w', OwnLs w' w.heap.size (Ek.mk 3 X) 23 v ((prL (auN e) (auN f)).map rowP) → Ext w w' → RetLs (Ek.mk 3 X) 23 w (prsF e f) (.returned v) w') := fun v w' x1 x2 => by rw [HF.out]; exact ⟨v, rfl, x1, x2⟩
    clear h1 h2 hb hA hB HF hLenA hLenB
    generalize hFQ : RetLs (Ek.mk 3 X) 23 w (prsF e f) = FQ at *
    clear hFQ
    generalize hne : e.length = ne at *
    generalize hnf : f.length = nf at *
    clear hne hnf
    go_enter Tryz.func53, Tryz.ntmps53
    go_wp2_with fail
    refine (CA.out _ (by (repeat (first | exact Ext.refl _ | assumption | refine Ext.alloc ?_ _ | refine Ext.drewN ?_ _ | refine Ext.drew ?_)))).mono ?_
    rintro r w1 ⟨a1, c1, a2, c2, rfl, r1, x1⟩
    have R1 := Lib.hid r1.2.rows
    have X1 := Lib.hid (Ext.trans (show Ext w _ by (repeat (first | exact Ext.refl _ | assumption | refine Ext.alloc ?_ _ | refine Ext.drewN ?_ _ | refine Ext.drew ?_))) x1)
    clear r1 x1 CA
    generalize hN : auN e = N at *
    generalize hnE : (auE e).length = nE at *
    generalize hnN : N.length = nN at *
    clear hN hnE hnN
    go_wp2_with fail
    refine (CB.out _ (X1.out.trans (by (repeat (first | exact Ext.refl _ | assumption | refine Ext.alloc ?_ _ | refine Ext.drewN ?_ _ | refine Ext.drew ?_))))).mono ?_
    rintro r w2 ⟨b1, d1, b2, d2, rfl, r2, x2⟩
    have R2 := Lib.hid r2.2.rows
    have RA := Lib.hid (R1.out.ext (Ext.trans (by (repeat (first | exact Ext.refl _ | assumption | refine Ext.alloc ?_ _ | refine Ext.drewN ?_ _ | refine Ext.drew ?_))) x2))
    have p0 : w2.cell? ⟨w1.heap.size, 0, none⟩ = some (.slice a1 nE c1) := x2.cell' (by simp [go_sem]) (by simp)
    have p1 : w2.cell? ⟨w1.heap.size, 1, none⟩ = some (.slice a2 nN c2) := x2.cell' (by simp [go_sem]) (by simp)
    have X2 := Lib.hid (X1.out.trans (Ext.trans (by (repeat (first | exact Ext.refl _ | assumption | refine Ext.alloc ?_ _ | refine Ext.drewN ?_ _ | refine Ext.drew ?_))) x2))
    have hz12 := x2.size
    simp at hz12
    clear r2 x2 CB X1 R1
    generalize hM : auN f = M at *
    generalize hnF : (auE f).length = nF at *
    generalize hnM : M.length = nM at *
    clear hM hnF hnM
    have HB : Hid (∀ w', Ext (w2.alloc (.cells #[.slice b1 nF d1, .slice b2 nM d2] 63)) w' → (w'.cell? ⟨w1.heap.size, 0, none⟩ = some (.slice a1 nE c1) ∧ w'.cell? ⟨w1.heap.size, 1, none⟩ = some (.slice a2 nN c2)) ∧ (w'.cell? ⟨w2.heap.size, 0, none⟩ = some (.slice b1 nF d1) ∧ w'.cell? ⟨w2.heap.size, 1, none⟩ = some (.slice b2 nM d2))) := fun w' x =>
      ⟨⟨(Ext.trans ((Ext.refl w2).alloc _) x).cell' p0 (by omega), (Ext.trans ((Ext.refl w2).alloc _) x).cell' p1 (by omega)⟩, x.cell' (by simp [go_sem]) (by simp), x.cell' (by simp [go_sem]) (by simp)⟩
    have hE0 : ¬ ((nE : Int) = 0) := by omega
    have hF0 : ¬ ((nF : Int) = 0) := by omega
    have hE0' : ((nE : Int) == 0) = false := by simpa using hE0
    have hF0' : ((nF : Int) == 0) = false := by simpa using hF0
    obtain ⟨⟨p0', p1'⟩, f0', f1'⟩ := HB.out _ (Ext.refl _)
    go_wp2
    clear p0' p1' f0' f1'
    have HI2 : Hid (IntsE ((w2.alloc (.cells #[.slice b1 nF d1, .slice b2 nM d2] 63)).alloc (.cells #[.int .i64 1, .int .i64 1] 3)) (Ek.mk 3 X) (some ⟨w2.heap.size + 1, 0, none⟩) [1, 1]) := by
      have h := OwnI.intsX (OwnI.lit2 (w2.alloc (.cells #[.slice b1 nF d1, .slice b2 nM d2] 63)) (w2.alloc (.cells #[.slice b1 nF d1, .slice b2 nM d2] 63)).heap.size 3 1 1 (Nat.le_refl _)) (X := X) (fun k hB _ => HX0.out _ (by have := X2.out.size; simp; omega) k hB)
      unfold Hid
      simpa using h
    have O0 : Hid (OwnLs (((w2.alloc (.cells #[.slice b1 nF d1, .slice b2 nM d2] 63)).alloc (.cells #[.int .i64 1, .int .i64 1] 3)).alloc (.cells #[.slice (some ⟨w2.heap.size + 1, 0, none⟩) 2 2] 23)) (w2.heap.size + 1) (Ek.mk 3 X) 23 (.slice (some ⟨w2.heap.size + 1 + 1, 0, none⟩) 1 1) ((clP N M 0).map rowP)) := by
      have h := OwnLs.lit (ER := 23) (c := 2) (w2.heap.size + 1) HI2.out (by simp) (by simp)
      have e0 : (clP N M 0).map rowP = [[1, 1]] := rfl
      unfold Hid
      rw [e0]
      simpa using h
    go_loopw [7, 8] (fun v i wr => Hid (∃ k : Nat, k ≤ 100 ∧ i = .int .i64 k ∧ k ≤ (clP N M k).length ∧ (clP N M k).length ≤ 100 ∧ OwnLs wr (w2.heap.size + 1) (Ek.mk 3 X) 23 v ((clP N M k).map rowP) ∧ Ext (w2.alloc (.cells #[.slice b1 nF d1, .slice b2 nM d2] 63)) wr)) (fun _ i _ => 101 - (intOf i).toNat)
    case atStart => exact Lib.hid ⟨0, Nat.zero_le _, rfl, Nat.zero_le _, by show (1 : Nat) ≤ 100; decide, O0.out, by (repeat (first | exact Ext.refl _ | assumption | refine Ext.alloc ?_ _ | refine Ext.drewN ?_ _ | refine Ext.drew ?_))⟩
    case round =>
      obtain ⟨k, hk, rfl, hkl, hkn, ho, hx⟩ := hrel.out
      obtain ⟨av, cv, rfl⟩ := ho.shape
      have HO := Lib.hid ho
      have HX := Lib.hid hx
      have HKL := Lib.hid hkl
      have hz2 := hx.size
      simp at hz2
      have hlm : ((clP N M k).map rowP).length = (clP N M k).length := List.length_map ..
      rw [hlm] at HO ⊢
      clear hrel ho hx O0 HI2 hlm
      by_cases hlt : k < (clP N M k).length
      · obtain ⟨wo, hwo⟩ : ∃ wo, wo = wr := ⟨_, rfl⟩
        subst hwo
        have hpp := HLt.out k _ (atP_mem hlt)
        have HSucc : Hid (clP N M (k + 1) = addP N M (clP N M k) (atP (clP N M k) k) 12) := by unfold Hid; rw [clP_succ, if_pos hlt]
        have hki : (k : Int) < ((clP N M k).length : Int) := by omega
        have HAt : Hid (∀ m, atP (addP N M (clP N M k) (atP (clP N M k) k) m) k = atP (clP N M k) k) := fun m => addP_at hlt m
        have HLen : Hid (∀ m, (clP N M k).length ≤ (addP N M (clP N M k) (atP (clP N M k) k) m).length ∧ (addP N M (clP N M k) (atP (clP N M k) k) m).length ≤ (clP N M k).length + m) := fun m => ⟨addP_le m, addP_len N M _ _ m⟩
        generalize hL : clP N M k = L at *
        generalize hp : atP L k = p at *
        generalize hn : L.length = n at *
        have HNn := Lib.hid hn
        clear hn
        go_wp2
        go_loopw [7, 9] (fun v i wr => Hid (∃ m : Nat, m ≤ 12 ∧ i = .int .i64 m ∧ OwnLs wr (w2.heap.size + 1) (Ek.mk 3 X) 23 v ((addP N M L p m).map rowP) ∧ Ext (w2.alloc (.cells #[.slice b1 nF d1, .slice b2 nM d2] 63)) wr)) (fun _ i _ => 12 - (intOf i).toNat)
        case atStart => exact Lib.hid ⟨0, by omega, rfl, HO.out, HX.out⟩
        case round =>
          obtain ⟨m, hm, rfl, ho, hx⟩ := hrel.out
          obtain ⟨a4, c4, rfl⟩ := ho.shape
          have HO2 := Lib.hid ho
          have HX2 := Lib.hid hx
          have hln := HLen.out m
          have hz3 := hx.size
          simp at hz3
          have hlm : ((addP N M L p m).map rowP).length = (addP N M L p m).length := List.length_map ..
          clear hrel ho hx
          by_cases hm12 : m < 12
          · have hm12i : (m : Int) < 12 := by omega
            obtain ⟨g, rfl, -, hg, -, hcells⟩ := HO2.out.row (by omega)
            obtain ⟨ai, ci, hc, hci, hi⟩ := hcells k (by omega)
            rw [rowP_map (by omega), HAt.out m] at hc hi
            obtain ⟨gr, og, rfl, q0, q1⟩ := hi.two
            have hc : wr.cell? ⟨g, k, none⟩ = some (.slice (some ⟨gr, og, none⟩) 2 ci) := hc
            have XB := HX2
            obtain ⟨⟨e0, e1⟩, f0, f1⟩ := HB.out wr XB.out
            have H1 : Hid (HeldR w1.heap.size g k gr og (.slice a1 nE c1) (.slice a2 nN c2) (.slice (some ⟨gr, og, none⟩) 2 ci) (.int .i64 (p.1 : Nat)) wr) := ⟨e0, e1, hc, q0⟩
            have H2 : Hid (HeldR w2.heap.size g k gr (og + 1) (.slice b1 nF d1) (.slice b2 nM d2) (.slice (some ⟨gr, og, none⟩) 2 ci) (.int .i64 (p.2 : Nat)) wr) := ⟨f0, f1, hc, q1⟩
            have CX1 : Hid (∀ w', Ext wr w' → Calls Tryz.prog 63 #[autV a1 nE c1 a2 nN c2, .int .i64 (p.1 : Nat), .int .i64 (m : Nat)] w' fun r w'' => r = .returned (.int .i64 (stp N p.1 m : Nat)) ∧ Ext w' w'') := fun w' x => CX.out w' a1 c1 a2 c2 p.1 m (RA.out.ext (Ext.trans ((Ext.refl _).alloc _) (XB.out.trans x))) hpp.1 hm12
            have CY1 : Hid (∀ w', Ext wr w' → Calls Tryz.prog 63 #[autV b1 nF d1 b2 nM d2, .int .i64 (p.2 : Nat), .int .i64 (m : Nat)] w' fun r w'' => r = .returned (.int .i64 (stp M p.2 m : Nat)) ∧ Ext w' w'') := fun w' x => CY.out w' b1 d1 b2 d2 p.2 m (R2.out.ext (Ext.trans ((Ext.refl _).alloc _) (XB.out.trans x))) hpp.2 hm12
            have hstep : addP N M L p (m + 1) = if nxP N M p m ∈ addP N M L p m then addP N M L p m else addP N M L p m ++ [nxP N M p m] := rfl
            have HStep := Lib.hid hstep
            have hlen2 : (addP N M L p m).length ≤ 112 := by omega
            have hki2 : (k : Int) < ((addP N M L p m).length : Int) := by omega
            have CH : Hid (∀ w', Ext wr w' → Calls Tryz.prog 60 #[.slice (some ⟨g, 0, none⟩) (addP N M L p m).length c4, .int .i64 (stp N p.1 m : Nat), .int .i64 (stp M p.2 m : Nat)] w' fun r w'' => r = .returned (.bool (decide (nxP N M p m ∈ addP N M L p m))) ∧ Ext w' w'') := fun w' x => by
              have h := l6Has_c (some ⟨g, 0, none⟩) c4 ((addP N M L p m).map rowP) ((nxP N M p m).1 : Nat) ((nxP N M p m).2 : Nat) w' (HO2.out.ext x).rows (by omega)
              rw [hlm, mem_xy] at h
              exact h
            rw [hlm] at HO2 ⊢
            clear hcells hstep hlm hc hi q0 q1 e0 e1 f0 f1 hci
            have hnx1 : (nxP N M p m).1 = stp N p.1 m := rfl
            have hnx2 : (nxP N M p m).2 = stp M p.2 m := rfl
            rw [← hnx1] at CX1 CH
            rw [← hnx2] at CY1 CH
            clear hnx1 hnx2
            generalize nxP N M p m = q at *
            have hki3 : k < (addP N M L p m).length := by omega
            have HLL : Hid (q ∈ addP N M L p m → addP N M L p (m + 1) = addP N M L p m) := fun h => by rw [HStep.out, if_pos h]
            have HLN : Hid (q ∉ addP N M L p m → addP N M L p (m + 1) = addP N M L p m ++ [q]) := fun h => by rw [HStep.out, if_neg h]
            clear HStep
            generalize hLL : addP N M L p m = LL at *
            clear hLL
            generalize hnl : LL.length = nl at *
            have HNL := Lib.hid hnl
            clear hnl
            go_wp2
            have K0 := (show HeldR w1.heap.size g k gr og (.slice a1 nE c1) (.slice a2 nN c2) (.slice (some ⟨gr, og, none⟩) 2 ci) (.int .i64 (p.1 : Nat)) wr.drew from H1.out.ext (by (repeat (first | exact Ext.refl _ | assumption | refine Ext.alloc ?_ _ | refine Ext.drewN ?_ _ | refine Ext.drew ?_))))
            go_region_held3 (fun w' => HeldR w1.heap.size g k gr og (.slice a1 nE c1) (.slice a2 nN c2) (.slice (some ⟨gr, og, none⟩) 2 ci) (.int .i64 (p.1 : Nat)) w')
              (first
                | exact K0
                | assumption
                | exact H1.out.ext (by repeat (first | exact Ext.refl _ | assumption | exact Ext.trans (show Ext wr _ by (repeat (first | exact Ext.refl _ | assumption | refine Ext.alloc ?_ _ | refine Ext.drewN ?_ _ | refine Ext.drew ?_))) yk | refine Ext.alloc ?_ _ | refine Ext.drewN ?_ _ | refine Ext.drew ?_)))
              ((go_at_call 63; refine (CX1.out _ (by (repeat (first | exact Ext.refl _ | assumption | refine Ext.alloc ?_ _ | refine Ext.drewN ?_ _ | refine Ext.drew ?_)))).mono ?_; rintro e wk ⟨rfl, yk⟩))
            all_goals
              refine world_cut1 (w0 := wr) (by repeat (first | exact Ext.refl _ | assumption | exact Ext.trans (show Ext wr _ by (repeat (first | exact Ext.refl _ | assumption | refine Ext.alloc ?_ _ | refine Ext.drewN ?_ _ | refine Ext.drew ?_))) yk | refine Ext.alloc ?_ _ | refine Ext.drewN ?_ _ | refine Ext.drew ?_)) ?_
              intro w9 x9
              have X9 := Lib.hid x9
              clear x9 yk K0
              go_wp2
              have K1 := (show HeldR w2.heap.size g k gr (og + 1) (.slice b1 nF d1) (.slice b2 nM d2) (.slice (some ⟨gr, og, none⟩) 2 ci) (.int .i64 (p.2 : Nat)) w9.drew from H2.out.ext (X9.out.trans (by (repeat (first | exact Ext.refl _ | assumption | refine Ext.alloc ?_ _ | refine Ext.drewN ?_ _ | refine Ext.drew ?_)))))
              go_region_held3 (fun w' => HeldR w2.heap.size g k gr (og + 1) (.slice b1 nF d1) (.slice b2 nM d2) (.slice (some ⟨gr, og, none⟩) 2 ci) (.int .i64 (p.2 : Nat)) w')
                (first
                  | exact K1
                  | assumption
                  | exact H2.out.ext (X9.out.trans (by repeat (first | exact Ext.refl _ | assumption | exact Ext.trans (show Ext w9 _ by (repeat (first | exact Ext.refl _ | assumption | refine Ext.alloc ?_ _ | refine Ext.drewN ?_ _ | refine Ext.drew ?_))) yk | refine Ext.alloc ?_ _ | refine Ext.drewN ?_ _ | refine Ext.drew ?_))))
                ((go_at_call 63; refine (CY1.out _ (X9.out.trans (by (repeat (first | exact Ext.refl _ | assumption | refine Ext.alloc ?_ _ | refine Ext.drewN ?_ _ | refine Ext.drew ?_))))).mono ?_; rintro e wk ⟨rfl, yk⟩))
              all_goals
                refine world_cut1 (w0 := wr) (X9.out.trans (by repeat (first | exact Ext.refl _ | assumption | exact Ext.trans (show Ext w9 _ by (repeat (first | exact Ext.refl _ | assumption | refine Ext.alloc ?_ _ | refine Ext.drewN ?_ _ | refine Ext.drew ?_))) yk | refine Ext.alloc ?_ _ | refine Ext.drewN ?_ _ | refine Ext.drew ?_))) ?_
                intro w8 x8
                have X8 := Lib.hid x8
                clear x8 yk K1 X9
                by_cases hq : q ∈ LL
                · have HStep := Lib.hid (HLL.out hq)
                  have CH1 := CH
                  rw [decide_eq_true hq] at CH1
                  clear hq
                  go_wp2_with (go_at_call 60; refine (CH1.out _ (X8.out.trans (by (repeat (first | exact Ext.refl _ | assumption | refine Ext.alloc ?_ _ | refine Ext.drewN ?_ _ | refine Ext.drew ?_))))).mono ?_; rintro e w7 ⟨rfl, y7⟩; have Y7 := Lib.hid (X8.out.trans (Ext.trans (by (repeat (first | exact Ext.refl _ | assumption | refine Ext.alloc ?_ _ | refine Ext.drewN ?_ _ | refine Ext.drew ?_))) y7)); clear y7)
                  go_roundw
                  case rel => exact Lib.hid ⟨m + 1, by omega, by go_num, by rw [HStep.out]; exact HO2.out.ext (Y7.out.trans (by (repeat (first | exact Ext.refl _ | assumption | refine Ext.alloc ?_ _ | refine Ext.drewN ?_ _ | refine Ext.drew ?_)))), HX2.out.trans (Y7.out.trans (by (repeat (first | exact Ext.refl _ | assumption | refine Ext.alloc ?_ _ | refine Ext.drewN ?_ _ | refine Ext.drew ?_))))⟩
                  case measure => simp [intOf]; omega
                · have HStep := Lib.hid (HLN.out hq)
                  have CH1 := CH
                  rw [decide_eq_false hq] at CH1
                  clear hq
                  have hz8 := X8.out.size
                  have hlq : (LL.map rowP).length = nl := by rw [List.length_map, HNL.out]
                  go_wp2_with (first
                    | (go_at_call 60; refine (CH1.out _ (X8.out.trans (by (repeat (first | exact Ext.refl _ | assumption | refine Ext.alloc ?_ _ | refine Ext.drewN ?_ _ | refine Ext.drew ?_))))).mono ?_; rintro e w7 ⟨rfl, y7⟩; have Y7 := Lib.hid (X8.out.trans (Ext.trans (by (repeat (first | exact Ext.refl _ | assumption | refine Ext.alloc ?_ _ | refine Ext.drewN ?_ _ | refine Ext.drew ?_))) y7)); have hz7 := Y7.out.size; have hw7 := Nat.le_trans X2.out.size (Nat.le_trans (Nat.le_trans (Nat.le_succ _) (by simpa using hz3)) hz7); clear y7)
                    | (at_builtin; refine any_append_lsA (by rfl) _ _ _ rfl (w2.heap.size + 1) (Ek.mk 3 X) 23 neE Tryz.underlying24 infoInts (.slice (some ⟨g, 0, none⟩) nl c4) (LL.map rowP) rfl (HO2.out.ext (Y7.out.trans (by (repeat (first | exact Ext.refl _ | assumption | refine Ext.alloc ?_ _ | refine Ext.drewN ?_ _ | refine Ext.drew ?_))))) _ (some ⟨w7.heap.size, 0, none⟩) 2 (rowP q) rfl (by simp [go_sem, rowP]) ((OwnI.intsX (OwnI.lit2 w7 w7.heap.size _ _ _ (Nat.le_refl _)) (X := X) (fun k hB _ => HX0.out _ hw7 k hB)).ext (by (repeat (first | exact Ext.refl _ | assumption | refine Ext.alloc ?_ _ | refine Ext.drewN ?_ _ | refine Ext.drew ?_)))) (by simp [rowP]) (by rw [hlq]; omega) (by simp; omega) ?_))
                  intro v6 w6 o6 g6 t6
                  have X6 := Lib.hid (Ext.row (HX2.out.trans (Y7.out.trans (by (repeat (first | exact Ext.refl _ | assumption | refine Ext.alloc ?_ _ | refine Ext.drewN ?_ _ | refine Ext.drew ?_))))) g6 (fun k hk => by have := HO2.out.lt k hk; simp; omega))
                  have O6 : Hid (OwnLs w6 (w2.heap.size + 1) (Ek.mk 3 X) 23 v6 ((addP N M L p (m + 1)).map rowP)) := by rw [HStep.out, List.map_append]; exact o6
                  clear o6 g6 t6
                  go_wp2
                  go_roundw
                  case rel => exact Lib.hid ⟨m + 1, by omega, by go_num, O6.out, X6.out⟩
                  case measure => simp [intOf]; omega
          · obtain rfl : m = 12 := by omega
            rw [hlm] at HO2 ⊢
            rw [← HSucc.out] at HO2 hln ⊢
            by_cases h100 : (clP N M (k + 1)).length ≤ 100
            · have h100i : ¬ (100 < ((clP N M (k + 1)).length : Int)) := by omega
              have HO3 : Hid (OwnLs wr (w2.heap.size + 1) (Ek.mk 3 X) 23 (.slice a4 (clP N M (k + 1)).length c4) ((clP N M (k + 1)).map rowP)) := HO2
              clear HO2
              go_wp2
              go_roundw
              case rel => exact Lib.hid ⟨k + 1, by omega, by go_num, by have := HKL.out; omega, h100, HO3.out, HX2.out⟩
              case measure => simp [intOf]; omega
            · have h100i : (100 < ((clP N M (k + 1)).length : Int)) := by omega
              obtain ⟨hpb, hpl⟩ := prL_many (N := N) (M := M) (k := k + 1) (by omega) (by omega)
              rw [hpl] at HR
              have XF := Lib.hid (X2.out.trans (Ext.trans ((Ext.refl _).alloc _) HX2.out))
              have hzf := XF.out.size
              clear hpb hpl
              go_wp2
              exact HR.out _ _ ((OwnLs.empty _ _ _).mono hzf) (XF.out.trans (by (repeat (first | exact Ext.refl _ | assumption | refine Ext.alloc ?_ _ | refine Ext.drewN ?_ _ | refine Ext.drew ?_))))
      · have hke : (clP N M k).length = k := by omega
        obtain ⟨hpb, hpl⟩ := prL_stop (N := N) (M := M) hk hke
        rw [hpl] at HR
        have hni : ¬ ((k : Int) < ((clP N M k).length : Int)) := by omega
        have XF := Lib.hid (X2.out.trans (Ext.trans ((Ext.refl _).alloc _) HX.out))
        have hzf := XF.out.size
        have hz22 := X2.out.size
        rw [hke] at HO
        clear hpb hpl
        go_wp2
        exact HR.out _ _ ((HO.out.mono (B' := w.heap.size) (by omega)).ext (by (repeat (first | exact Ext.refl _ | assumption | refine Ext.alloc ?_ _ | refine Ext.drewN ?_ _ | refine Ext.drew ?_)))) (XF.out.trans (by (repeat (first | exact Ext.refl _ | assumption | refine Ext.alloc ?_ _ | refine Ext.drewN ?_ _ | refine Ext.drew ?_))))
  · have HF : Hid (prsF e f = []) := by
      unfold Hid prsF
      rw [show (auB e && auB f) = false by simpa using hb]; rfl
    rw [HF.out]
    have hor : auE e = [] ∨ (1 ≤ (auE e).length ∧ auE f = []) := by
      cases h1 : auB e
      · exact .inl (auE_off h1)
      · refine .inr ⟨auE_pos h1, auE_off ?_⟩
        rw [h1, Bool.true_and] at hb
        simpa using hb
    generalize hne : e.length = ne at *
    generalize hnf : f.length = nf at *
    clear hne hnf HF hb
    go_enter Tryz.func53, Tryz.ntmps53
    go_wp2_with fail
    refine (CA.out _ (by (repeat (first | exact Ext.refl _ | assumption | refine Ext.alloc ?_ _ | refine Ext.drewN ?_ _ | refine Ext.drew ?_)))).mono ?_
    rintro r w1 ⟨a1, c1, a2, c2, rfl, r1, x1⟩
    have X1 := Lib.hid (Ext.trans (show Ext w _ by (repeat (first | exact Ext.refl _ | assumption | refine Ext.alloc ?_ _ | refine Ext.drewN ?_ _ | refine Ext.drew ?_))) x1)
    clear r1 x1 CA
    go_wp2_with fail
    refine (CB.out _ (X1.out.trans (by (repeat (first | exact Ext.refl _ | assumption | refine Ext.alloc ?_ _ | refine Ext.drewN ?_ _ | refine Ext.drew ?_))))).mono ?_
    rintro r w2 ⟨b1, d1, b2, d2, rfl, r2, x2⟩
    have p0 : w2.cell? ⟨w1.heap.size, 0, none⟩ = some (.slice a1 (auE e).length c1) := x2.cell' (by simp [go_sem]) (by simp)
    have X2 := Lib.hid (X1.out.trans (Ext.trans (by (repeat (first | exact Ext.refl _ | assumption | refine Ext.alloc ?_ _ | refine Ext.drewN ?_ _ | refine Ext.drew ?_))) x2))
    have hz12 := x2.size
    simp at hz12
    have hz2 := X2.out.size
    have p0' : (w2.alloc (.cells #[.slice b1 (auE f).length d1, .slice b2 (auN f).length d2] 63)).cell? ⟨w1.heap.size, 0, none⟩ = some (.slice a1 (auE e).length c1) := ((Ext.refl w2).alloc _).cell' p0 (by omega)
    have f0' : (w2.alloc (.cells #[.slice b1 (auE f).length d1, .slice b2 (auN f).length d2] 63)).cell? ⟨w2.heap.size, 0, none⟩ = some (.slice b1 (auE f).length d1) := by simp [go_sem]
    clear r2 x2 CB X1 p0
    generalize (auN e).length = nN at *
    generalize (auN f).length = nM at *
    rcases hor with h | ⟨h1, h2⟩
    · have h0 : (auE e).length = 0 := by rw [h]; rfl
      rw [h0] at p0'
      generalize (auE f).length = nF at *
      rw [h0]
      clear h h0
      go_wp2
      go_ret
      exact ⟨_, rfl, OwnLs.mono (B := w2.heap.size + 1) (B' := w.heap.size) (OwnLs.empty' (w := w2.alloc (.cells #[.slice b1 _ d1, .slice b2 nM d2] 63)) (by simp) _ _) (by omega), X2.out.trans (by (repeat (first | exact Ext.refl _ | assumption | refine Ext.alloc ?_ _ | refine Ext.drewN ?_ _ | refine Ext.drew ?_)))⟩
    · have h0 : (auE f).length = 0 := by rw [h2]; rfl
      rw [h0] at f0' p0'
      rw [h0]
      generalize (auE e).length = nE at *
      have hE0' : ((nE : Int) == 0) = false := by simp; omega
      have hE0 : ¬ ((nE : Int) = 0) := by omega
      clear h2 h0
      go_wp2
      go_ret
      exact ⟨_, rfl, OwnLs.mono (B := w2.heap.size + 1) (B' := w.heap.size) (OwnLs.empty' (w := w2.alloc (.cells #[.slice b1 _ d1, .slice b2 nM d2] 63)) (by simp) _ _) (by omega), X2.out.trans (by (repeat (first | exact Ext.refl _ | assumption | refine Ext.alloc ?_ _ | refine Ext.drewN ?_ _ | refine Ext.drew ?_)))⟩
end Go.Proofs.YtlaamecfknkmlaaGreat
