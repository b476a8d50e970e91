/- Merged texts: contracts and plain lemmas (Na). -/
import Derived.Test.YtlaamecfknkmlaaGreatGt14
import Derived.Deep.RegionHeld3
namespace Go.Kt
set_option linter.unusedVariables false
theorem addP_at {N M : List (List Int)} {L : List (Nat × Nat)} {p : Nat × Nat} {k : Nat} (h : k < L.length) (m : Nat) : atP (addP N M L p m) k = atP L k := by
  obtain ⟨r, hr⟩ := addP_pre N M L p m
  unfold atP
  rw [hr, List.getD_eq_getElem?_getD, List.getD_eq_getElem?_getD, List.getElem?_append_left h]
theorem addP_le {N M : List (List Int)} {L : List (Nat × Nat)} {p : Nat × Nat} (m : Nat) : L.length ≤ (addP N M L p m).length := by
  obtain ⟨r, hr⟩ := addP_pre N M L p m
  rw [hr, List.length_append]; omega
end Go.Kt
namespace Go.Proofs.YtlaamecfknkmlaaGreat
set_option linter.unusedVariables false
open Go.RowKit Go.Kt
/-- m[p]. -/
theorem wpList_look {ops : Array Oper} {rest : List Oper} {o : Oper} {a : Act} {Q : Exit → Act → World → Prop} {w : World} (hg : o.guard = none) (m x : Operand)
    (hop : o.op = Op.lookup 68 m x false) (b : Nat) (S : List (Nat × Nat)) (p : Nat × Nat) (hm : a.eval m = .map (some b)) (hx : a.eval x = pairV p) (hown : SetP w b S) (bb : Bool) (hbb : decide (p ∈ S) = bb)
    (hK : wpList Tryz.prog ops Q rest (a.put o.dst (.bool bb)) w) : wpList Tryz.prog ops Q (o :: rest) a w := by
  refine wpList_plain hg fun K' hK' => ?_
  have hrun := hown.look p
  rw [hbb] at hrun
  unfold Oper.wp
  simp [execOp, hop, hm, hx, hrun, Result.andThen]
  exact hK' _ _ hK
/-- Lists of pairs and maps lie apart. -/
theorem ownQ_ne {w : World} {B E b : Nat} {v : Value} {L S : List (Nat × Nat)} (h : OwnQ w B E v L) (k : SetP w b S) : v.ownBlock = none ∨ v.ownBlock ≠ some b := by
  cases hv : v.ownBlock with
  | none => exact .inl rfl
  | some g =>
    refine .inr fun e => ?_
    obtain ⟨cs, fz, h1⟩ := h.typed g hv
    obtain rfl := Option.some.inj e
    rw [k.1] at h1
    cases h1
theorem ownQ_ne' {w : World} {B E b : Nat} {v : Value} {L S : List (Nat × Nat)} (h : OwnQ w B E v L) (k : SetP w b S) : v.ownBlock ≠ some b := by
  rcases ownQ_ne h k with e | e
  · rw [e]; simp
  · exact e
def RetPr (w : World) (N M : List (List Int)) (r : Ending) (w' : World) : Prop := ∃ v, r = .returned (.tuple #[v, .bool (prB N M)]) ∧ OwnQ w' w.heap.size 71 v (prL N M) ∧ Ext w w'
/-- Both automata in a box. -/
abbrev BoxT (z : Nat) (v0 v1 v2 v3 : Value) (w : World) : Prop := w.cell? ⟨z, 0, none⟩ = some v0 ∧ w.cell? ⟨z, 1, none⟩ = some v1 ∧ w.cell? ⟨z, 2, none⟩ = some v2 ∧ w.cell? ⟨z, 3, none⟩ = some v3
theorem BoxT.ext {z : Nat} {v0 v1 v2 v3 : Value} {w w' : World} (h : BoxT z v0 v1 v2 v3 w) (x : Ext w w') : BoxT z v0 v1 v2 v3 w' := by
  obtain ⟨h0, h1, h2, h3⟩ := h
  have hz := lt_of_cell h0
  exact ⟨x.cell' h0 hz, x.cell' h1 hz, x.cell' h2 hz, x.cell' h3 hz⟩
abbrev HeldN (w' : World) (z g k : Nat) (v0 v1 v2 v3 : Value) (p : Nat × Nat) : Prop := BoxT z v0 v1 v2 v3 w' ∧ w'.cell? ⟨g, k * 2, none⟩ = some (.int .i64 (p.1 : Nat)) ∧ w'.cell? ⟨g, k * 2 + 1, none⟩ = some (.int .i64 (p.2 : Nat))
set_option maxRecDepth 100000 in
set_option maxHeartbeats 4000000 in
theorem pairs_c (e f : List Int) (a1 : Option Addr) (c1 : Nat) (a2 : Option Addr) (c2 : Nat) (b1 : Option Addr) (d1 : Nat) (b2 : Option Addr) (d2 : Nat) (w : World) (i1 : IntsAt w a1 (auE e)) (i2 : RowsAt w a2 (auN e)) (i3 : IntsAt w b1 (auE f)) (i4 : RowsAt w b2 (auN f)) (h1 : auB e = true) (h2 : auB f = true) :
    Calls Tryz.prog 76 #[togV a1 (auE e).length c1 a2 (auN e).length c2 b1 (auE f).length d1 b2 (auN f).length d2] w (RetPr w (auN e) (auN f)) := by
  have hA := auto_of e
  have hB := auto_of f
  have hp1 := auE_pos h1
  have hp2 := auE_pos h2
  have HLt : Hid (∀ k p, p ∈ clP (auN e) (auN f) k → p.1 < 4294967296 ∧ p.2 < 4294967296) := fun k p hp => by
    have := clP_lt hA hB hp1 hp2 k p hp
    have := two_10 hA
    have := two_10 hB
    omega
  have CN : Hid (∀ w' (p : Nat × Nat) m, Ext w w' → p.1 < 4294967296 → p.2 < 4294967296 → m < 12 → Calls Tryz.prog 58 #[togV a1 (auE e).length c1 a2 (auN e).length c2 b1 (auE f).length d1 b2 (auN f).length d2, .agg #[.int .i64 (p.1 : Nat), .int .i64 (p.2 : Nat)], .int .i64 (m : Nat)] w' fun r w'' => r = .returned (.agg #[.int .i64 ((nxP (auN e) (auN f) p m).1 : Nat), .int .i64 ((nxP (auN e) (auN f) p m).2 : Nat)]) ∧ Ext w' w'') :=
    fun w' p m x hp hq hm => next_c a1 a2 c1 c2 (auE e) (auN e) b1 b2 d1 d2 (auE f) (auN f) p.1 p.2 m w' (i2.ext x) hA (i4.ext x) hB hp hq hm
  clear i1 i2 i3 i4 hA hB hp1 hp2 h1 h2
  have HR : Hid (∀ v w', OwnQ w' w.heap.size 71 v (prL (auN e) (auN f)) → Ext w w' → RetPr w (auN e) (auN f) (.returned (.tuple #[v, .bool (prB (auN e) (auN f))])) w') := fun v w' x1 x2 => ⟨v, rfl, x1, x2⟩
  generalize hFQ : RetPr w (auN e) (auN f) = FQ at *
  clear hFQ
  generalize hN : auN e = N at *
  generalize hM : auN f = M at *
  clear hN hM
  generalize N.length = nN at *
  generalize M.length = nM at *
  generalize (auE e).length = nE at *
  generalize (auE f).length = nF at *
  have hmm := @run_makeMap Tryz.prog
  go_enter Tryz.func76, Tryz.ntmps76
  go_wp2_with (refine wpList_ins rfl _ _ _ rfl (w.heap.size + 1 + 1) [] (1, 1) rfl rfl rfl (by have := SetP.made ((w.alloc (.cells #[.slice a1 nE c1, .slice a2 nN c2, .slice b1 nF d1, .slice b2 nM d2] 65)).alloc (.cells #[.int .i64 1, .int .i64 1] 71)); simpa using this) ?_; intro w5 s5 g5 z5)
  have S5 : Hid (SetP w5 (w.heap.size + 1 + 1) [(1, 1)]) := s5
  have XA : Hid (Ext (w.alloc (.cells #[.slice a1 nE c1, .slice a2 nN c2, .slice b1 nF d1, .slice b2 nM d2] 65)) w5) := Ext.row (((Ext.refl _).alloc _).alloc _) g5 (fun k hk => by have := Option.some.inj hk; simp; omega)
  have O5 : Hid (OwnQ w5 (w.heap.size + 1) 71 (.slice (some ⟨w.heap.size + 1, 0, none⟩) 1 1) [(1, 1)]) := by
    unfold Hid
    have h := OwnQ.lit (w.alloc (.cells #[.slice a1 nE c1, .slice a2 nN c2, .slice b1 nF d1, .slice b2 nM d2] 65)) (w.heap.size + 1) 71 (1, 1) (by simp)
    have h2 := h.ext ((Ext.refl _).alloc (.map #[] 0))
    have h3 := h2.kept g5 (.inr (by simp [Value.ownBlock]))
    simpa using h3
  have X5 : Hid (Ext w w5) := Ext.trans ((Ext.refl _).alloc _) XA.out
  clear s5 g5 z5 hmm
  go_loopw [4, 6] (fun v i wr => Hid (∃ k : Nat, k ≤ 100 ∧ i = .int .i64 k ∧ k ≤ (clP N M k).length ∧ (clP N M k).length ≤ 100 ∧ OwnQ wr (w.heap.size + 1) 71 v (clP N M k) ∧ SetP wr (w.heap.size + 1 + 1) (clP N M k) ∧ Ext (w.alloc (.cells #[.slice a1 nE c1, .slice a2 nN c2, .slice b1 nF d1, .slice b2 nM d2] 65)) wr)) (fun _ i _ => 101 - (intOf i).toNat)
  case atStart => exact Lib.hid ⟨0, Nat.zero_le _, rfl, Nat.zero_le _, by show (1 : Nat) ≤ 100; decide, O5.out, S5.out, XA.out⟩
  case round =>
    obtain ⟨k, hk, rfl, hkl, hkn, ho, hs, hx⟩ := hrel.out
    obtain ⟨av, cv, rfl⟩ := ho.shape
    have HO := Lib.hid ho
    have HS := Lib.hid hs
    have HX := Lib.hid hx
    have HKL := Lib.hid hkl
    clear hrel ho hs hx O5 S5 XA X5
    by_cases hlt : k < (clP N M k).length
    · obtain ⟨wo, hwo⟩ : ∃ wo, wo = wr := ⟨_, rfl⟩
      subst hwo
      have hpp := HLt.out k _ (atP_mem hlt)
      have HSucc : Hid (clP N M (k + 1) = addP N M (clP N M k) (atP (clP N M k) k) 12) := by unfold Hid; rw [clP_succ, if_pos hlt]
      have hki : (k : Int) < ((clP N M k).length : Int) := by omega
      have HAt : Hid (∀ m, atP (addP N M (clP N M k) (atP (clP N M k) k) m) k = atP (clP N M k) k) := fun m => addP_at hlt m
      have HLen : Hid (∀ m, (clP N M k).length ≤ (addP N M (clP N M k) (atP (clP N M k) k) m).length ∧ (addP N M (clP N M k) (atP (clP N M k) k) m).length ≤ (clP N M k).length + m) := fun m => ⟨addP_le m, addP_len N M _ _ m⟩
      generalize hL : clP N M k = L at *
      generalize hp : atP L k = p at *
      generalize hn : L.length = n at *
      have HNn := Lib.hid hn
      clear hn
      go_wp2
      go_loopw [4, 22] (fun v i wr => Hid (∃ m : Nat, m ≤ 12 ∧ i = .int .i64 m ∧ OwnQ wr (w.heap.size + 1) 71 v (addP N M L p m) ∧ SetP wr (w.heap.size + 1 + 1) (addP N M L p m) ∧ Ext (w.alloc (.cells #[.slice a1 nE c1, .slice a2 nN c2, .slice b1 nF d1, .slice b2 nM d2] 65)) wr)) (fun _ i _ => 12 - (intOf i).toNat)
      case atStart => exact Lib.hid ⟨0, by omega, rfl, HO.out, HS.out, HX.out⟩
      case round =>
        obtain ⟨m, hm, rfl, ho, hs, hx⟩ := hrel.out
        obtain ⟨a4, c4, rfl⟩ := ho.shape
        have HO2 := Lib.hid ho
        have HS2 := Lib.hid hs
        have HX2 := Lib.hid hx
        have hln := HLen.out m
        clear hrel ho hs hx
        by_cases hm12 : m < 12
        · have hm12i : (m : Int) < 12 := by omega
          obtain ⟨g, rfl, -, hBg, hg, hcells⟩ := HO2.out.row (by omega)
          obtain ⟨hc0, hc1⟩ := hcells k (by omega)
          rw [HAt.out m] at hc0 hc1
          have hbx : BoxT w.heap.size (.slice a1 nE c1) (.slice a2 nN c2) (.slice b1 nF d1) (.slice b2 nM d2) wr := BoxT.ext (w := w.alloc (.cells #[.slice a1 nE c1, .slice a2 nN c2, .slice b1 nF d1, .slice b2 nM d2] 65)) (by simp [BoxT, go_sem]) HX2.out
          have hzb := lt_of_cell hbx.1
          have CN1 : Hid (∀ w', Ext wr w' → Calls Tryz.prog 58 #[togV a1 nE c1 a2 nN c2 b1 nF d1 b2 nM d2, .agg #[.int .i64 (p.1 : Nat), .int .i64 (p.2 : Nat)], .int .i64 (m : Nat)] w' fun r w'' => r = .returned (.agg #[.int .i64 ((nxP N M p m).1 : Nat), .int .i64 ((nxP N M p m).2 : Nat)]) ∧ Ext w' w'') :=
            fun w' x => CN.out w' p m (Ext.trans ((Ext.refl _).alloc _) (HX2.out.trans x)) hpp.1 hpp.2 hm12
          have hstep : addP N M L p (m + 1) = if nxP N M p m ∈ addP N M L p m then addP N M L p m else addP N M L p m ++ [nxP N M p m] := rfl
          have HStep := Lib.hid hstep
          have hlen2 : (addP N M L p m).length ≤ 112 := by omega
          have hki2 : (k : Int) < ((addP N M L p m).length : Int) := by omega
          have HC : Hid (HeldN wr w.heap.size g k (.slice a1 nE c1) (.slice a2 nN c2) (.slice b1 nF d1) (.slice b2 nM d2) p) := ⟨hbx, hc0, hc1⟩
          clear hcells hstep
          generalize nxP N M p m = q at *
          by_cases hq : q ∈ addP N M L p m
          · rw [if_pos hq] at HStep
            have HQ : Hid (decide (q ∈ addP N M L p m) = true) := decide_eq_true hq
            clear hq
            generalize addP N M L p m = LL at *
            generalize hnl : LL.length = nl at *
            have HNL := Lib.hid hnl
            clear hnl
            go_wp2
            have K0 := (show HeldN wr.drew w.heap.size g k (.slice a1 nE c1) (.slice a2 nN c2) (.slice b1 nF d1) (.slice b2 nM d2) p by simp only [HeldN, BoxT]; simpa [go_sem, BoxT] using HC.out)
            have KK : Hid (∀ w', Ext wr w' → HeldN w' w.heap.size g k (.slice a1 nE c1) (.slice a2 nN c2) (.slice b1 nF d1) (.slice b2 nM d2) p) := fun w' x => ⟨BoxT.ext HC.out.1 x, x.cell' HC.out.2.1 hg, x.cell' HC.out.2.2 hg⟩
            go_region_held3 (fun w' => HeldN w' w.heap.size g k (.slice a1 nE c1) (.slice a2 nN c2) (.slice b1 nF d1) (.slice b2 nM d2) p)
              (first
                | exact K0
                | assumption
                | exact KK.out _ (by repeat (first | exact Ext.refl _ | assumption | exact Ext.trans (show Ext wr _ by (repeat (first | exact Ext.refl _ | assumption | refine Ext.alloc ?_ _ | refine Ext.drewN ?_ _ | refine Ext.drew ?_))) yk | refine Ext.alloc ?_ _ | refine Ext.drewN ?_ _ | refine Ext.drew ?_ | refine Ext.setCell ?_ (by simp; try omega) _)))
              ((go_at_call 58; refine (CN1.out _ (by (repeat (first | exact Ext.refl _ | assumption | refine Ext.alloc ?_ _ | refine Ext.drewN ?_ _ | refine Ext.drew ?_)))).mono ?_; rintro e wk ⟨rfl, yk⟩; have zk := yk.size; (try simp at zk); try (have cn0 := yk.cell' (show (wr.drew.alloc (.cells #[.int .i64 0, .int .i64 0] 71)).cell? ⟨wr.heap.size, 0, none⟩ = some (.int .i64 0) by simp [go_sem]) (by simp); have cn1 := yk.cell' (show (wr.drew.alloc (.cells #[.int .i64 0, .int .i64 0] 71)).cell? ⟨wr.heap.size, 1, none⟩ = some (.int .i64 0) by simp [go_sem]) (by simp); have fn0 := (yk.cells.2 wr.heap.size 0 (by simp)).trans (show (wr.drew.alloc (.cells #[.int .i64 0, .int .i64 0] 71)).frozen? ⟨wr.heap.size, 0, none⟩ = false by simp [go_sem]); have fn1 := (yk.cells.2 wr.heap.size 1 (by simp)).trans (show (wr.drew.alloc (.cells #[.int .i64 0, .int .i64 0] 71)).frozen? ⟨wr.heap.size, 1, none⟩ = false by simp [go_sem]); have zn : wr.heap.size < wk.heap.size := (by omega))))
            all_goals
              go_wp2_with (refine wpList_look rfl _ _ rfl (w.heap.size + 1 + 1) LL q rfl rfl (HS2.out.ext (by (repeat (first | exact Ext.refl _ | assumption | exact Ext.trans (show Ext wr _ by (repeat (first | exact Ext.refl _ | assumption | refine Ext.alloc ?_ _ | refine Ext.drewN ?_ _ | refine Ext.drew ?_))) yk | refine Ext.alloc ?_ _ | refine Ext.drewN ?_ _ | refine Ext.drew ?_ | refine Ext.setCell ?_ (by simp; try omega) _)))) true HQ.out ?_)
              go_roundw
              case rel => exact Lib.hid ⟨m + 1, by omega, by go_num, by rw [HStep.out]; exact HO2.out.ext (by (repeat (first | exact Ext.refl _ | assumption | exact Ext.trans (show Ext wr _ by (repeat (first | exact Ext.refl _ | assumption | refine Ext.alloc ?_ _ | refine Ext.drewN ?_ _ | refine Ext.drew ?_))) yk | refine Ext.alloc ?_ _ | refine Ext.drewN ?_ _ | refine Ext.drew ?_ | refine Ext.setCell ?_ (by simp; try omega) _))), by rw [HStep.out]; exact HS2.out.ext (by (repeat (first | exact Ext.refl _ | assumption | exact Ext.trans (show Ext wr _ by (repeat (first | exact Ext.refl _ | assumption | refine Ext.alloc ?_ _ | refine Ext.drewN ?_ _ | refine Ext.drew ?_))) yk | refine Ext.alloc ?_ _ | refine Ext.drewN ?_ _ | refine Ext.drew ?_ | refine Ext.setCell ?_ (by simp; try omega) _))), HX2.out.trans (by (repeat (first | exact Ext.refl _ | assumption | exact Ext.trans (show Ext wr _ by (repeat (first | exact Ext.refl _ | assumption | refine Ext.alloc ?_ _ | refine Ext.drewN ?_ _ | refine Ext.drew ?_))) yk | refine Ext.alloc ?_ _ | refine Ext.drewN ?_ _ | refine Ext.drew ?_ | refine Ext.setCell ?_ (by simp; try omega) _)))⟩
              case measure => simp [intOf]; omega
          · rw [if_neg hq] at HStep
            have HQ : Hid (decide (q ∈ addP N M L p m) = false) := decide_eq_false hq
            have HNq := Lib.hid hq
            clear hq
            generalize addP N M L p m = LL at *
            generalize hnl : LL.length = nl at *
            have HNL := Lib.hid hnl
            clear hnl
            have hmB := HS2.out.lt
            go_wp2
            have K0 := (show HeldN wr.drew w.heap.size g k (.slice a1 nE c1) (.slice a2 nN c2) (.slice b1 nF d1) (.slice b2 nM d2) p by simp only [HeldN, BoxT]; simpa [go_sem, BoxT] using HC.out)
            have KK : Hid (∀ w', Ext wr w' → HeldN w' w.heap.size g k (.slice a1 nE c1) (.slice a2 nN c2) (.slice b1 nF d1) (.slice b2 nM d2) p) := fun w' x => ⟨BoxT.ext HC.out.1 x, x.cell' HC.out.2.1 hg, x.cell' HC.out.2.2 hg⟩
            go_region_held3 (fun w' => HeldN w' w.heap.size g k (.slice a1 nE c1) (.slice a2 nN c2) (.slice b1 nF d1) (.slice b2 nM d2) p)
              (first
                | exact K0
                | assumption
                | exact KK.out _ (by repeat (first | exact Ext.refl _ | assumption | exact Ext.trans (show Ext wr _ by (repeat (first | exact Ext.refl _ | assumption | refine Ext.alloc ?_ _ | refine Ext.drewN ?_ _ | refine Ext.drew ?_))) yk | refine Ext.alloc ?_ _ | refine Ext.drewN ?_ _ | refine Ext.drew ?_ | refine Ext.setCell ?_ (by simp; try omega) _)))
              ((go_at_call 58; refine (CN1.out _ (by (repeat (first | exact Ext.refl _ | assumption | refine Ext.alloc ?_ _ | refine Ext.drewN ?_ _ | refine Ext.drew ?_)))).mono ?_; rintro e wk ⟨rfl, yk⟩; have zk := yk.size; (try simp at zk); try (have cn0 := yk.cell' (show (wr.drew.alloc (.cells #[.int .i64 0, .int .i64 0] 71)).cell? ⟨wr.heap.size, 0, none⟩ = some (.int .i64 0) by simp [go_sem]) (by simp); have cn1 := yk.cell' (show (wr.drew.alloc (.cells #[.int .i64 0, .int .i64 0] 71)).cell? ⟨wr.heap.size, 1, none⟩ = some (.int .i64 0) by simp [go_sem]) (by simp); have fn0 := (yk.cells.2 wr.heap.size 0 (by simp)).trans (show (wr.drew.alloc (.cells #[.int .i64 0, .int .i64 0] 71)).frozen? ⟨wr.heap.size, 0, none⟩ = false by simp [go_sem]); have fn1 := (yk.cells.2 wr.heap.size 1 (by simp)).trans (show (wr.drew.alloc (.cells #[.int .i64 0, .int .i64 0] 71)).frozen? ⟨wr.heap.size, 1, none⟩ = false by simp [go_sem]); have zn : wr.heap.size < wk.heap.size := (by omega))))
            all_goals
              go_wp2_with (first
                | (refine wpList_look rfl _ _ rfl (w.heap.size + 1 + 1) LL q rfl rfl (HS2.out.ext (by (repeat (first | exact Ext.refl _ | assumption | exact Ext.trans (show Ext wr _ by (repeat (first | exact Ext.refl _ | assumption | refine Ext.alloc ?_ _ | refine Ext.drewN ?_ _ | refine Ext.drew ?_))) yk | refine Ext.alloc ?_ _ | refine Ext.drewN ?_ _ | refine Ext.drew ?_ | refine Ext.setCell ?_ (by simp; try omega) _)))) false HQ.out ?_)
                | (refine wpList_put rfl _ _ _ rfl (w.heap.size + 1 + 1) LL q rfl rfl rfl (HS2.out.ext (by (repeat (first | exact Ext.refl _ | assumption | exact Ext.trans (show Ext wr _ by (repeat (first | exact Ext.refl _ | assumption | refine Ext.alloc ?_ _ | refine Ext.drewN ?_ _ | refine Ext.drew ?_))) yk | refine Ext.alloc ?_ _ | refine Ext.drewN ?_ _ | refine Ext.drew ?_ | refine Ext.setCell ?_ (by simp; try omega) _)))) ?_; intro w6 s6 g6 z6; clear z6; rw [if_neg HNq.out] at s6; have O6 := (HO2.out.ext (by (repeat (first | exact Ext.refl _ | assumption | exact Ext.trans (show Ext wr _ by (repeat (first | exact Ext.refl _ | assumption | refine Ext.alloc ?_ _ | refine Ext.drewN ?_ _ | refine Ext.drew ?_))) yk | refine Ext.alloc ?_ _ | refine Ext.drewN ?_ _ | refine Ext.drew ?_ | refine Ext.setCell ?_ (by simp; try omega) _)))).kept g6 (ownQ_ne HO2.out HS2.out); have X6 := Ext.row (HX2.out.trans (by (repeat (first | exact Ext.refl _ | assumption | exact Ext.trans (show Ext wr _ by (repeat (first | exact Ext.refl _ | assumption | refine Ext.alloc ?_ _ | refine Ext.drewN ?_ _ | refine Ext.drew ?_))) yk | refine Ext.alloc ?_ _ | refine Ext.drewN ?_ _ | refine Ext.drew ?_ | refine Ext.setCell ?_ (by simp; try omega) _)))) g6 (fun k hk => by have := Option.some.inj hk; simp; omega); first | (have b60 := g6.cell (a := ⟨wr.heap.size, 0, none⟩) (v := .int .i64 (q.1 : Nat)) (by simp [go_sem, cn0]) (by simp; omega); have b61 := g6.cell (a := ⟨wr.heap.size, 1, none⟩) (v := .int .i64 (q.2 : Nat)) (by simp [go_sem, cn1]) (by simp; omega)) | (have b60 := g6.cell (a := ⟨wk.heap.size, 0, none⟩) (v := .int .i64 (q.1 : Nat)) (by simp [go_sem]) (by simp; omega); have b61 := g6.cell (a := ⟨wk.heap.size, 1, none⟩) (v := .int .i64 (q.2 : Nat)) (by simp [go_sem]) (by simp; omega)))
                | (at_builtin; go_loud (refine want_append_q (by rfl) _ _ _ rfl (w.heap.size + 1) 71 Tryz.underlying88 infoPair _ LL rfl (O6.ext ((Ext.refl _).alloc _)) w6.heap.size q rfl (by simp [go_sem]) (by simp [go_sem]) (by have := HNL.out; omega) (by have := X6.size; (try simp at this); (try simp); omega) ?_); intro v7 w7 o7 g7))
              have O6a : OwnQ (w6.alloc (.cells #[.int .i64 (q.1 : Nat), .int .i64 (q.2 : Nat)] 71)) (w.heap.size + 1) 71 (.slice (some ⟨g, 0, none⟩) nl c4) LL := O6.ext ((Ext.refl _).alloc _)
              have S6a : SetP (w6.alloc (.cells #[.int .i64 (q.1 : Nat), .int .i64 (q.2 : Nat)] 71)) (w.heap.size + 1 + 1) (LL ++ [q]) := s6.ext ((Ext.refl _).alloc _)
              have S7 : SetP w7 (w.heap.size + 1 + 1) (LL ++ [q]) := S6a.grown g7 (ownQ_ne' O6a S6a)
              have X7 : Ext (w.alloc (.cells #[.slice a1 nE c1, .slice a2 nN c2, .slice b1 nF d1, .slice b2 nM d2] 65)) w7 := Ext.row (X6.trans ((Ext.refl _).alloc _)) g7 (fun k hk => by have h := O6a.lt k hk; simp; omega)
              have O7 := Lib.hid o7
              have HS7 := Lib.hid S7
              have HX7 := Lib.hid X7
              go_roundw
              case rel => exact Lib.hid ⟨m + 1, by omega, by go_num, by rw [HStep.out]; exact O7.out, by rw [HStep.out]; exact HS7.out, HX7.out⟩
              case measure => simp [intOf]; omega
        · obtain rfl : m = 12 := by omega
          rw [← HSucc.out] at HO2 HS2 hln ⊢
          have HLk : Hid ((clP N M (k + 1)).length = (clP N M (k + 1)).length) := rfl
          by_cases h100 : (clP N M (k + 1)).length ≤ 100
          · have h100i : ¬ (100 < ((clP N M (k + 1)).length : Int)) := by omega
            go_wp2
            go_roundw
            case rel => exact Lib.hid ⟨k + 1, by omega, by go_num, by have := HKL.out; omega, h100, HO2.out, HS2.out, HX2.out⟩
            case measure => simp [intOf]; omega
          · have h100i : (100 < ((clP N M (k + 1)).length : Int)) := by omega
            obtain ⟨hpb, hpl⟩ := prL_many (N := N) (M := M) (k := k + 1) (by omega) (by omega)
            have HR2 := HR.out (.slice none 0 0) wr (by rw [hpl]; exact OwnQ.nil _ _ _) (Ext.trans ((Ext.refl _).alloc _) HX2.out)
            rw [hpb] at HR2
            replace HR2 := Lib.hid HR2
            clear hpb hpl
            go_wp2
            exact HR2.out
    · have hke : (clP N M k).length = k := by omega
      obtain ⟨hpb, hpl⟩ := prL_stop (N := N) (M := M) hk hke
      have HR2 := HR.out (.slice av (clP N M k).length cv) wr (by rw [hpl]; exact HO.out.mono (by omega)) (Ext.trans ((Ext.refl _).alloc _) HX.out)
      rw [hpb, hke] at HR2
      replace HR2 := Lib.hid HR2
      clear hpb hpl
      have hni : ¬ ((k : Int) < ((clP N M k).length : Int)) := by omega
      go_wp2
      exact HR2.out
end Go.Proofs.YtlaamecfknkmlaaGreat
