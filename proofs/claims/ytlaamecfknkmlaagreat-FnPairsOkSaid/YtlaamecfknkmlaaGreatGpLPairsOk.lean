/- Merged texts: contracts and plain lemmas (LPairsOk). -/
import Derived.Test.YtlaamecfknkmlaaGreatGpPk
import Derived.Test.YtlaamecfknkmlaaGreatGpSq
import Derived.Test.YtlaamecfknkmlaaGreatGp10
import Derived.Test.YtlaamecfknkmlaaGreatGp7
import Derived.Test.YtlaamecfknkmlaaGreatGpNh
import Derived.Test.YtlaamecfknkmlaaGreatGpYs
import Derived.Test.YtlaamecfknkmlaaGreatGpYm
import Derived.Test.YtlaamecfknkmlaaGreatGp3
import Derived.Deep.RegionHeld3
import Derived.Lib.QuietBelow
namespace Go.Kt
set_option linter.unusedVariables false
/-- The last j rows, the last one first. -/
def bkTo (L : List (List Int)) (n : Nat) : Nat → List (List Int)
  | 0 => []
  | j + 1 => bkTo L n j ++ [rowI L (n - 1 - j)]
theorem bkTo_len (L : List (List Int)) (n : Nat) : ∀ j, (bkTo L n j).length = j
  | 0 => rfl
  | j + 1 => by
    show (bkTo L n j ++ _).length = _
    rw [List.length_append, bkTo_len L n j]; rfl
theorem mem_bkTo (L : List (List Int)) (n : Nat) (r : List Int) : ∀ j, r ∈ bkTo L n j ↔ ∃ i, i < j ∧ rowI L (n - 1 - i) = r
  | 0 => by simp [bkTo]
  | j + 1 => by
    show r ∈ bkTo L n j ++ _ ↔ _
    rw [List.mem_append, mem_bkTo L n r j, List.mem_singleton]
    constructor
    · rintro (⟨i, h1, h2⟩ | h)
      · exact ⟨i, by omega, h2⟩
      · exact ⟨j, by omega, h.symm⟩
    · rintro ⟨i, h1, h2⟩
      by_cases e : i = j
      · subst e; exact .inr h2.symm
      · exact .inl ⟨i, by omega, h2⟩
theorem bkTo_all (L : List (List Int)) (r : List Int) : r ∈ bkTo L L.length L.length ↔ r ∈ L := by
  rw [mem_bkTo]
  constructor
  · rintro ⟨i, h1, rfl⟩
    rw [rowI_getElem _ _ (by omega)]
    exact List.getElem_mem _
  · intro h
    obtain ⟨i, hi, he⟩ := List.mem_iff_getElem.1 h
    exact ⟨L.length - 1 - i, by omega, by rw [show L.length - 1 - (L.length - 1 - i) = i by omega, rowI_getElem _ _ hi]; exact he⟩
theorem ok_back {e f : List Int} {L : List (List Int)} (h : okB e f L = true) : okB e f (bkTo L L.length L.length) = true :=
  (okB_iff _ _ _).2 (((okB_iff _ _ _).1 h).same (bkTo_len _ _ _) (bkTo_all L))
theorem ok_turn {e f : List Int} {L : List (List Int)} (h : okB e f L = true) : okB f e ((bkTo L L.length L.length).map turnR) = true :=
  (okB_iff _ _ _).2 (((okB_iff _ _ _).1 h).turn (by rw [List.length_map, bkTo_len]) fun r => by
    rw [List.mem_map]
    exact ⟨fun ⟨x, h1, h2⟩ => ⟨x, (bkTo_all L x).1 h1, h2⟩, fun ⟨x, h1, h2⟩ => ⟨x, (bkTo_all L x).2 h1, h2⟩⟩)
theorem ok_two {e f : List Int} {L : List (List Int)} (h : okB e f L = true) {k : Nat} (hk : k < L.length) : (rowI L k).length = 2 := by
  have hr := ((okB_iff _ _ _).1 h).row _ (show rowI L k ∈ L by rw [rowI_getElem _ _ hk]; exact List.getElem_mem hk)
  unfold rowB at hr
  rw [Bool.and_eq_true, decide_eq_true_eq] at hr
  exact hr.1
theorem Bes.symm {v u : Value} (h : Bes v u) : Bes u v := by
  rcases h with h | h
  · cases hv : v.ownBlock with
    | none => exact .inl hv
    | some k => exact .inr (by rw [h, hv]; simp)
  · exact .inr fun e => h e.symm
/-- append of one slice in a drawn region, and where the new block lies. -/
theorem step_append_lsA {P : Program} {ops : Array Oper} {o : Oper} {a : Act} {K : Act → World → Prop} {Q : Exit → Act → World → Prop} {Xx : Prop} {w : World} (hgd : o.guard = none) (s x : Operand) (t : TypeId)
    (ho : o.op = .call { callee := .builtin .append, args := #[s, x], argTypes := #[t, t] }) (B : Nat) (E : Ek) (ER : Nat) (hE : E.t ≠ ER) (ht : P.underlying t = some (.slice ER))
    (hinfo : (P.info? ER).map (fun i => (i.zero, i.size, i.bytes)) = some (some (.slice none 0 0), 1, 24))
    (v : Value) (ll : List (List Int)) (hs : a.eval s = v) (hown : OwnLs w B E ER v ll) (g : Nat) (al : Option Addr) (cl : Nat) (l : List Int) (hx : a.eval x = .slice (some ⟨g, 0, none⟩) 1 1) (hcell : w.cell? ⟨g, 0, none⟩ = some (.slice al l.length cl))
    (hi : IntsE w E al l) (hc : l.length ≤ cl) (hlen : ll.length + 1 ≤ 1099511627776) (hB : B ≤ w.heap.size)
    (h : ∀ v' w', OwnLs w' B E ER v' (ll ++ [l]) → w.grownBy w' v.ownBlock → (v'.ownBlock = v.ownBlock ∨ v'.ownBlock = some w.heap.size) → K (a.put o.dst v') w') : if Region.wanted o (yielded ops a.tmps) = true then Oper.wp P o a w K Q else Xx := by
  have hty := hown.typed
  obtain ⟨us, h1, h2⟩ := hown
  refine step_append_at hgd s x t ho B ER (.slice none 0 0) 24 ht hinfo rfl (by decide) v ll.length us hs h1 g _ hx hcell rfl hlen hB
    fun v' w' h3 h4 h5 => h v' w' ⟨us ++ [.slice al l.length cl], ?_, ?_⟩ h4 h5
  · rw [List.length_append]; exact h3
  · exact (h2.append (RowsV.one hi hc)).kept h4 hty hE
end Go.Kt
namespace Go.Proofs.YtlaamecfknkmlaaGreat
set_option linter.unusedVariables false
open Go.RowKit Go.Kt Go.Sort
abbrev HeldA (g k : Nat) (v : Value) (w0 w : World) : Prop := w.cell? ⟨g, k, none⟩ = some v ∧ Ext w0 w
theorem HeldA.more {g k : Nat} {v : Value} {w0 w w' : World} (h : HeldA g k v w0 w) (e : Ext w w') : HeldA g k v w0 w' := ⟨e.cell' h.1 (lt_of_cell h.1), h.2.trans e⟩
abbrev HeldD (g k gr o : Nat) (vs x y : Value) (w0 w : World) : Prop := (w.cell? ⟨g, k, none⟩ = some vs ∧ w.cell? ⟨gr, o, none⟩ = some x ∧ w.cell? ⟨gr, o + 1, none⟩ = some y) ∧ Ext w0 w
theorem HeldD.more {g k gr o : Nat} {vs x y : Value} {w0 w w' : World} (h : HeldD g k gr o vs x y w0 w) (e : Ext w w') : HeldD g k gr o vs x y w0 w' := ⟨⟨e.cell' h.1.1 (lt_of_cell h.1.1), e.cell' h.1.2.1 (lt_of_cell h.1.2.1), e.cell' h.1.2.2 (lt_of_cell h.1.2.2)⟩, h.2.trans e⟩
abbrev Held3 (g k gr o : Nat) (vs x y : Value) (w : World) : Prop := w.cell? ⟨g, k, none⟩ = some vs ∧ w.cell? ⟨gr, o, none⟩ = some x ∧ w.cell? ⟨gr, o + 1, none⟩ = some y
theorem Held3.ext {g k gr o : Nat} {vs x y : Value} {w w' : World} (h : Held3 g k gr o vs x y w) (e : Ext w w') : Held3 g k gr o vs x y w' := ⟨e.cell' h.1 (lt_of_cell h.1), e.cell' h.2.1 (lt_of_cell h.2.1), e.cell' h.2.2 (lt_of_cell h.2.2)⟩
set_option maxRecDepth 100000 in
set_option maxHeartbeats 8000000 in
theorem fnPairsOk_c (a0 : Option Addr) (c0 : Nat) (l0 : List Int) (a1 : Option Addr) (c1 : Nat) (l1 : List Int) (w : World) (h0 : BytesAt w a0 l0) (hlen0 : l0.length ≤ 9223372036854775807) (hcap0 : l0.length ≤ c0) (h1 : BytesAt w a1 l1) (hlen1 : l1.length ≤ 9223372036854775807) (hcap1 : l1.length ≤ c1) :
    Calls Tryz.prog 3 #[.slice a0 l0.length c0, .slice a1 l1.length c1] w fun e w' => e = .returned (.bool true) ∧ Ext w w' := by
  by_cases hb0 : l0.length ≤ 1048576
  · by_cases hb1 : l1.length ≤ 1048576
    · go_enter Tryz.func3, Tryz.ntmps3
      go_wp2_with fail
      refine (drawPairsOk_c a0 c0 l0 _ h0 hb0 hcap0).mono ?_
      rintro e w1 ⟨ae, af, ar, ne, ce, nf, cf, cr, L, rfl, ⟨hfe, E, hEl, ie⟩, ⟨hff, F, hFl, if_⟩, hr, hne, hnf, hL101, x1⟩
      have IE := Lib.hid ie
      have IF := Lib.hid if_
      have HR := Lib.hid hr
      have X1 := Lib.hid x1
      have HB1 := Lib.hid (h1.ext x1)
      have CI : Hid (∀ w' ar' cr' (LL : List (List Int)), Ext w1 w' → RowsAt w' ar' LL → LL.length ≤ 4194304 → Calls Tryz.prog 11 #[.slice ae ne ce, .slice af nf cf, .slice ar' LL.length cr'] w' fun r w'' => r = .returned (.bool (okB E F LL)) ∧ Ext w' w'') := fun w' ar' cr' LL x hrr hll => by
        rw [← hEl, ← hFl]
        exact pairsOk_c ae af ar' ce cf cr' E F LL w' (IE.out.ext x).1 (IF.out.ext x).1 hrr (by omega) (by omega) hll
      have CI2 : Hid (∀ w' ar' cr' (LL : List (List Int)), Ext w1 w' → RowsAt w' ar' LL → LL.length ≤ 4194304 → Calls Tryz.prog 11 #[.slice af nf cf, .slice ae ne ce, .slice ar' LL.length cr'] w' fun r w'' => r = .returned (.bool (okB F E LL)) ∧ Ext w' w'') := fun w' ar' cr' LL x hrr hll => by
        rw [← hEl, ← hFl]
        exact pairsOk_c af ae ar' cf ce cr' F E LL w' (IF.out.ext x).1 (IE.out.ext x).1 hrr (by omega) (by omega) hll
      have CS : Hid (∀ w', Ext w1 w' → Calls Tryz.prog 12 #[.slice ae ne ce, .slice af nf cf, .slice ar L.length cr] w' fun r w'' => r = .returned (.bool (okB E F L)) ∧ Ext w' w'') := fun w' x => by
        rw [← hEl, ← hFl]
        exact sPairsOk_c ae af ar ce cf cr E F L w' (IE.out.ext x).1 (IF.out.ext x).1 (HR.out.ext x).rows (by omega) (by omega) (by omega)
      have CD : Hid (∀ w', Ext w1 w' → Calls Tryz.prog 17 #[.slice ae ne ce, .slice af nf cf] w' (RetTr w' (difO E F))) := fun w' x => by
        rw [← hEl, ← hFl]
        exact iDiffer_c ae af ce cf E F w' (IE.out.ext x).1 (IF.out.ext x).1 (by omega) (by omega)
      have TE : Hid (∀ w' b d (tr : List Int), Ext w1 w' → IntsAt w' b tr → tr.length ≤ 4194304 → Calls Tryz.prog 16 #[.slice ae ne ce, .slice b tr.length d] w' fun r w'' => r = .returned (.bool (tbB E tr)) ∧ Ext w' w'') := fun w' b d tr x hi hl => by
        rw [← hEl]
        exact traceBy_c ae b ce d E tr w' (IE.out.ext x) (by omega) hi (by omega) hl
      have TF : Hid (∀ w' b d (tr : List Int), Ext w1 w' → IntsAt w' b tr → tr.length ≤ 4194304 → Calls Tryz.prog 16 #[.slice af nf cf, .slice b tr.length d] w' fun r w'' => r = .returned (.bool (tbB F tr)) ∧ Ext w' w'') := fun w' b d tr x hi hl => by
        rw [← hFl]
        exact traceBy_c af b cf d F tr w' (IF.out.ext x) (by omega) hi (by omega) hl
      have C0 := Lib.hid (CI.out w1 ar cr L (Ext.refl _) HR.out.rows (by omega))
      clear ie if_ hr x1 hEl hFl IE IF h0 h1
      cases ho : okB E F L
      · rw [ho] at C0 CS
        clear CI CI2 CD TE TF ho
        generalize L.length = nL at *
        go_wp2_with fail
        refine C0.out.mono ?_
        rintro e w2 ⟨rfl, y2⟩
        have X2 := Lib.hid y2
        clear y2 C0
        go_wp2_with fail
        refine (CS.out _ (X2.out.trans (by (repeat (first | exact Ext.refl _ | assumption | refine Ext.alloc ?_ _ | refine Ext.drewN ?_ _ | refine Ext.drew ?_))))).mono ?_
        rintro e w3 ⟨rfl, y3⟩
        have X3 := Lib.hid (X1.out.trans (X2.out.trans (Ext.trans (by (repeat (first | exact Ext.refl _ | assumption | refine Ext.alloc ?_ _ | refine Ext.drewN ?_ _ | refine Ext.drew ?_))) y3)))
        clear y3 CS
        go_wp2_with fail
        refine (alive_c _).mono ?_
        rintro e w4 ⟨rfl, rfl⟩
        go_wp2
        go_ret
        exact ⟨rfl, X3.out.trans (by (repeat (first | exact Ext.refl _ | assumption | refine Ext.alloc ?_ _ | refine Ext.drewN ?_ _ | refine Ext.drew ?_)))⟩
      · rw [ho] at C0 CS
        have HTwo : Hid (∀ k, k < L.length → (rowI L k).length = 2) := fun k hk => ok_two ho hk
        have HTb : Hid (∀ tr, tbB E tr = tbB F tr) := fun tr => ((okB_iff _ _ _).1 ho).tb tr
        have HBk := Lib.hid (ok_back ho)
        have HTn := Lib.hid (ok_turn ho)
        have HDf := Lib.hid (difO_ok ((okB_iff _ _ _).1 ho))
        rw [HDf.out] at CD
        clear ho HDf
        generalize hnL : L.length = nL at *
        have HnL := Lib.hid hnL
        clear hnL
        go_wp2_with fail
        refine C0.out.mono ?_
        rintro e w2 ⟨rfl, y2⟩
        have X2 := Lib.hid y2
        clear y2 C0
        go_wp2_with fail
        refine (CS.out _ (X2.out.trans (by (repeat (first | exact Ext.refl _ | assumption | refine Ext.alloc ?_ _ | refine Ext.drewN ?_ _ | refine Ext.drew ?_))))).mono ?_
        rintro e w3 ⟨rfl, y3⟩
        have X3 := Lib.hid (X2.out.trans (Ext.trans (by (repeat (first | exact Ext.refl _ | assumption | refine Ext.alloc ?_ _ | refine Ext.drewN ?_ _ | refine Ext.drew ?_))) y3))
        have HR3 := Lib.hid (HR.out.ext X3.out)
        clear y3 CS X2 HR
        have hwn : IntKind.i64.wrap ((nL : Int) - 1) = (nL : Int) - 1 := IntWalk.i64_in _ (by omega)
        go_wp2
        go_loopw [9, 10, 11] (fun v u i wr => Hid (∃ (j : Nat) (k : Int), j ≤ nL ∧ k = (nL : Int) - 1 - (j : Int) ∧ i = .int .i64 k ∧ OwnLs wr w3.heap.size (ek 3) 23 v (bkTo L nL j) ∧ OwnLs wr w3.heap.size (ek 3) 23 u ((bkTo L nL j).map turnR) ∧ Bes v u ∧ Ext w3 wr)) (fun _ _ i _ => ((intOf i) + 1).toNat)
        case atStart => exact Lib.hid ⟨0, _, Nat.zero_le _, by omega, rfl, (OwnLs.empty _ _ _).ext (by (repeat (first | exact Ext.refl _ | assumption | refine Ext.alloc ?_ _ | refine Ext.drewN ?_ _ | refine Ext.drew ?_))), (OwnLs.empty' (w := w3.alloc (.cells #[] 23)) (by simp) _ _).mono (by simp), .inr (by simp [Value.ownBlock]), by (repeat (first | exact Ext.refl _ | assumption | refine Ext.alloc ?_ _ | refine Ext.drewN ?_ _ | refine Ext.drew ?_))⟩
        case round =>
          obtain ⟨j, k, hj, hkj, rfl, ho9, ho10, hb, hx⟩ := hrel.out
          obtain ⟨a9, c9, rfl⟩ := ho9.shape
          obtain ⟨a10, c10, rfl⟩ := ho10.shape
          have HO9 := Lib.hid ho9
          have HO10 := Lib.hid ho10
          have HBs := Lib.hid hb
          have HX := Lib.hid hx
          have hz := hx.size
          have hl9 : (bkTo L nL j).length = j := bkTo_len L nL j
          have hl10 : ((bkTo L nL j).map turnR).length = j := by rw [List.length_map, hl9]
          rw [hl9] at HO9 HBs ⊢
          rw [hl10] at HO10 HBs ⊢
          have HL9 := Lib.hid hl9
          have HL10 := Lib.hid hl10
          clear hrel ho9 ho10 hb hx hl9 hl10
          by_cases hjn : j < nL
          · obtain ⟨kk, hkk⟩ : ∃ kk : Nat, k = (kk : Int) := ⟨nL - 1 - j, by omega⟩
            subst hkk
            have hk0 : (0 : Int) ≤ (kk : Int) := by omega
            have hkn : kk < nL := by omega
            have hki : (kk : Int) < (nL : Int) := by omega
            have hkk2 : kk = nL - 1 - j := by omega
            have HKK := Lib.hid hkk2
            clear hkj hkk2
            obtain ⟨g, og, q1, q2⟩ := HR3.out
            obtain ⟨rfl, hg⟩ := q1 (by have := HnL.out; omega)
            obtain ⟨ai, ci, d0, hci, hi⟩ := q2 kk (by have := HnL.out; omega)
            have HI3 := Lib.hid hi
            have HI := Lib.hid (hi.ext HX.out)
            have hS : Hid (bkTo L nL (j + 1) = bkTo L nL j ++ [rowI L kk]) := by
              unfold Hid
              rw [HKK.out]; rfl
            have h2 := HTwo.out kk (by have := HnL.out; omega)
            have HRw : Hid (turnR (rowI L kk) = [nth (rowI L kk) 1, nth (rowI L kk) 0]) := rfl
            obtain ⟨⟨gr, o2, t1, t2⟩, -⟩ := id HI3.out
            obtain ⟨rfl, hgr⟩ := t1 (by omega)
            have t20 := t2 0 (by omega)
            have t21 := t2 1 (by omega)
            rw [Nat.add_zero] at t20
            rw [h2] at d0 hci
            have HQ3 : Hid (Held3 g (og + kk) gr o2 (.slice (some ⟨gr, o2, none⟩) 2 ci) (.int .i64 (nth (rowI L kk) 0)) (.int .i64 (nth (rowI L kk) 1)) w3) := ⟨d0, t20, t21⟩
            have d1 := HX.out.cell' d0 hg
            have H2 := Lib.hid h2
            clear q1 q2 d0 hi t1 t2 h2 t20 t21 HI3
            generalize bkTo L nL j = BK at *
            generalize hrr : rowI L kk = R at *
            have HRR := Lib.hid hrr
            clear hrr
            go_wp2_with (at_builtin; (refine any_append_lsA (by rfl) _ _ _ rfl w3.heap.size (ek 3) 23 neE Tryz.underlying24 infoInts (.slice a9 j c9) BK rfl (HO9.out.ext (by (repeat (first | exact Ext.refl _ | assumption | refine Ext.alloc ?_ _ | refine Ext.drewN ?_ _ | refine Ext.drew ?_)))) _ (some ⟨gr, o2, none⟩) ci R rfl (by rw [H2.out]; simp [go_sem]) (HI.out.ext (by (repeat (first | exact Ext.refl _ | assumption | refine Ext.alloc ?_ _ | refine Ext.drewN ?_ _ | refine Ext.drew ?_)))) (by rw [H2.out]; exact hci) (by have := HL9.out; omega) (by simp; omega) ?_))
            intro v7 w7 o7 g7 t7
            have X7 := Lib.hid (OwnLs.grown (HO9.out.ext (show Ext wr (wr.alloc (.cells #[.slice (some ⟨gr, o2, none⟩) 2 ci] 23)) by (repeat (first | exact Ext.refl _ | assumption | refine Ext.alloc ?_ _ | refine Ext.drewN ?_ _ | refine Ext.drew ?_)))) (HX.out.trans (by (repeat (first | exact Ext.refl _ | assumption | refine Ext.alloc ?_ _ | refine Ext.drewN ?_ _ | refine Ext.drew ?_)))) g7)
            have P7 := Lib.hid (OwnLs.beside (HO10.out.ext (show Ext wr (wr.alloc (.cells #[.slice (some ⟨gr, o2, none⟩) 2 ci] 23)) by (repeat (first | exact Ext.refl _ | assumption | refine Ext.alloc ?_ _ | refine Ext.drewN ?_ _ | refine Ext.drew ?_)))) (HO9.out.ext (show Ext wr (wr.alloc (.cells #[.slice (some ⟨gr, o2, none⟩) 2 ci] 23)) by (repeat (first | exact Ext.refl _ | assumption | refine Ext.alloc ?_ _ | refine Ext.drewN ?_ _ | refine Ext.drew ?_)))) HBs.out g7 neE)
            have B7 := Lib.hid (Bes.pushed (v' := v7) HBs.out (HO10.out.ext (show Ext wr (wr.alloc (.cells #[.slice (some ⟨gr, o2, none⟩) 2 ci] 23)) by (repeat (first | exact Ext.refl _ | assumption | refine Ext.alloc ?_ _ | refine Ext.drewN ?_ _ | refine Ext.drew ?_)))) (by first | exact t7 | simpa using t7))
            rw [← hS.out] at o7
            have O7 := Lib.hid o7
            obtain ⟨a7, c7, rfl⟩ := o7.shape
            have hz7 := X7.out.size
            have H7 := Lib.hid (Held3.ext HQ3.out X7.out)
            have HL10' : Hid ((BK.map turnR).length = j) := HL10.out
            clear g7 t7 o7
            generalize nth R 0 = x at *
            generalize nth R 1 = y at *
            go_wp2
            have K0d : HeldD g (og + kk) gr o2 (.slice (some ⟨gr, o2, none⟩) 2 ci) (.int .i64 x) (.int .i64 y) w3 w7.drew := ⟨H7.out.ext (by (repeat (first | exact Ext.refl _ | assumption | refine Ext.alloc ?_ _ | refine Ext.drewN ?_ _ | refine Ext.drew ?_))), X7.out.trans (by (repeat (first | exact Ext.refl _ | assumption | refine Ext.alloc ?_ _ | refine Ext.drewN ?_ _ | refine Ext.drew ?_)))⟩
            refine wp_region_held_drew (S := HeldD g (og + kk) gr o2 (.slice (some ⟨gr, o2, none⟩) 2 ci) (.int .i64 x) (.int .i64 y) w3) (by kernel_rfl) K0d (fun hHeld => ?_)
            (refine wpAnyH_take (i := 0) (v := ?v0d) (by simp only [List.getElem?_toArray, List.getElem?_cons_zero]; rfl) (by kernel_rfl) (by kernel_rfl) (by kernel_rfl) (by exact fun _ _ _ h => h) (Or.inl ⟨by rfl, ?y0d⟩) (by assumption) ?r0d)
            case y0d =>
              intro w hSw
              obtain ⟨⟨hs0, hs1, hs2⟩, -⟩ := hSw
              go_simp
              all_goals (with_reducible rfl)
            (try go_frame)
            (refine wpAnyH_take (i := 1) (v := ?v1d) (by simp only [List.getElem?_toArray, List.getElem?_cons_succ, List.getElem?_cons_zero]; rfl) (by kernel_rfl) (by kernel_rfl) (by kernel_rfl) (by exact fun _ _ _ h => h) (Or.inl ⟨by rfl, ?y1d⟩) (by assumption) ?r1d)
            case y1d =>
              intro w hSw
              obtain ⟨⟨hs0, hs1, hs2⟩, -⟩ := hSw
              go_simp
              all_goals (with_reducible rfl)
            (try go_frame)
            (refine wpAnyH_take (i := 2) (v := ?v2d) (by simp only [List.getElem?_toArray, List.getElem?_cons_succ, List.getElem?_cons_zero]; rfl) (by kernel_rfl) (by kernel_rfl) (by kernel_rfl) (by exact fun _ _ _ h => h) (Or.inl ⟨by rfl, ?y2d⟩) (by assumption) ?r2d)
            case y2d =>
              intro w hSw
              obtain ⟨⟨hs0, hs1, hs2⟩, -⟩ := hSw
              go_simp
              all_goals (with_reducible rfl)
            (try go_frame)
            (refine wpAnyH_take (i := 3) (v := ?v3d) (by simp only [List.getElem?_toArray, List.getElem?_cons_succ, List.getElem?_cons_zero]; rfl) (by kernel_rfl) (by kernel_rfl) (by kernel_rfl) (by exact fun _ _ _ h => h) (Or.inl ⟨by rfl, ?y3d⟩) (by assumption) ?r3d)
            case y3d =>
              intro w hSw
              obtain ⟨⟨hs0, hs1, hs2⟩, -⟩ := hSw
              go_simp
              all_goals (with_reducible rfl)
            (try go_frame)
            (refine wpAnyH_take (i := 4) (v := ?v4d) (by simp only [List.getElem?_toArray, List.getElem?_cons_succ, List.getElem?_cons_zero]; rfl) (by kernel_rfl) (by kernel_rfl) (by kernel_rfl) (by exact fun _ _ _ h => h) (Or.inl ⟨by rfl, ?y4d⟩) (by assumption) ?r4d)
            case y4d =>
              intro w hSw
              obtain ⟨⟨hs0, hs1, hs2⟩, -⟩ := hSw
              go_simp
              all_goals (with_reducible rfl)
            (try go_frame)
            (refine wpAnyH_take (i := 5) (v := ?v5d) (by simp only [List.getElem?_toArray, List.getElem?_cons_succ, List.getElem?_cons_zero]; rfl) (by kernel_rfl) (by kernel_rfl) (by kernel_rfl) (by exact fun _ _ _ h => h) (Or.inl ⟨by rfl, ?y5d⟩) (by assumption) ?r5d)
            case y5d =>
              intro w hSw
              obtain ⟨⟨hs0, hs1, hs2⟩, -⟩ := hSw
              go_simp
              all_goals (with_reducible rfl)
            (try go_frame)
            (refine wpAnyH_take (i := 6) (v := ?v6d) (by simp only [List.getElem?_toArray, List.getElem?_cons_succ, List.getElem?_cons_zero]; rfl) (by kernel_rfl) (by kernel_rfl) (by kernel_rfl) (by exact fun _ _ _ h => h) (Or.inl ⟨by rfl, ?y6d⟩) (by assumption) ?r6d)
            case y6d =>
              intro w hSw
              obtain ⟨⟨hs0, hs1, hs2⟩, -⟩ := hSw
              go_simp
              all_goals (with_reducible rfl)
            (try go_frame)
            (refine wpAnyH_take (i := 7) (v := ?v7d) (by simp only [List.getElem?_toArray, List.getElem?_cons_succ, List.getElem?_cons_zero]; rfl) (by kernel_rfl) (by kernel_rfl) (by kernel_rfl) (by exact fun _ _ _ h => h) (Or.inl ⟨by rfl, ?y7d⟩) (by assumption) ?r7d)
            case y7d =>
              intro w hSw
              obtain ⟨⟨hs0, hs1, hs2⟩, -⟩ := hSw
              go_simp
              all_goals (with_reducible rfl)
            (try go_frame)
            (refine wpAnyH_take (i := 8) (v := ?v8d) (by simp only [List.getElem?_toArray, List.getElem?_cons_succ, List.getElem?_cons_zero]; rfl) (by kernel_rfl) (by kernel_rfl) (by kernel_rfl) (by exact fun _ _ _ h => h) (Or.inl ⟨by rfl, ?y8d⟩) (by assumption) ?r8d)
            case y8d =>
              intro w hSw
              obtain ⟨⟨hs0, hs1, hs2⟩, -⟩ := hSw
              go_simp
              all_goals (with_reducible rfl)
            (try go_frame)
            (refine wpAnyH_take (i := 9) (v := ?v9d) (by simp only [List.getElem?_toArray, List.getElem?_cons_succ, List.getElem?_cons_zero]; rfl) (by kernel_rfl) (by kernel_rfl) (by kernel_rfl) (by exact fun _ _ _ h => h) (Or.inl ⟨by rfl, ?y9d⟩) (by assumption) ?r9d)
            case y9d =>
              intro w hSw
              obtain ⟨⟨hs0, hs1, hs2⟩, -⟩ := hSw
              go_simp
              all_goals (with_reducible rfl)
            (try go_frame)
            (refine wpAnyH_take (i := 10) (v := ?v10d) (by simp only [List.getElem?_toArray, List.getElem?_cons_succ, List.getElem?_cons_zero]; rfl) (by kernel_rfl) (by kernel_rfl) (by kernel_rfl) (by exact fun _ _ _ h => h) (Or.inl ⟨by rfl, ?y10d⟩) (by assumption) ?r10d)
            case y10d =>
              intro w hSw
              obtain ⟨⟨hs0, hs1, hs2⟩, -⟩ := hSw
              go_simp
              all_goals (with_reducible rfl)
            (try go_frame)
            (refine wpAnyH_take (i := 11) (v := ?v11d) (by simp only [List.getElem?_toArray, List.getElem?_cons_succ, List.getElem?_cons_zero]; rfl) (by kernel_rfl) (by kernel_rfl) (by kernel_rfl) (by exact fun _ _ _ h => h) (Or.inl ⟨by rfl, ?y11d⟩) (by assumption) ?r11d)
            case y11d =>
              intro w hSw
              obtain ⟨⟨hs0, hs1, hs2⟩, -⟩ := hSw
              go_simp
              all_goals (with_reducible rfl)
            (try go_frame)
            (refine wpAnyH_take (i := 12) (v := ?v12d) (by simp only [List.getElem?_toArray, List.getElem?_cons_succ, List.getElem?_cons_zero]; rfl) (by kernel_rfl) (by kernel_rfl) (by kernel_rfl) (by exact fun _ _ _ h => h) (Or.inl ⟨by rfl, ?y12d⟩) (by assumption) ?r12d)
            case y12d =>
              intro w hSw
              obtain ⟨⟨hs0, hs1, hs2⟩, -⟩ := hSw
              go_simp
              all_goals (with_reducible rfl)
            (try go_frame)
            refine wpAnyH_ready (rs := [13]) (by kernel_rfl) (by simp) ?_
            refine AllReadyH.cons (by simp only [List.getElem?_toArray, List.getElem?_cons_succ, List.getElem?_cons_zero]; rfl) (fun K hK => ?_) AllReadyH.nil
            go_simp
            refine hK.out _ _ ?_ (fun hHeld => ?_)
            · exact HeldD.more (show HeldD g (og + kk) gr o2 (.slice (some ⟨gr, o2, none⟩) 2 ci) (.int .i64 x) (.int .i64 y) w3 w7 from ⟨H7.out, X7.out⟩) (by (repeat (first | exact Ext.refl _ | assumption | refine Ext.alloc ?_ _ | refine Ext.drewN ?_ _ | refine Ext.drew ?_)))
            clear hK K
            (try go_frame)
            refine wpAnyH_ready (rs := [14]) (by kernel_rfl) (by simp) ?_
            refine AllReadyH.cons (by simp only [List.getElem?_toArray, List.getElem?_cons_succ, List.getElem?_cons_zero]; rfl) (fun K hK => ?_) AllReadyH.nil
            go_simp
            refine hK.out _ _ ?_ (fun hHeld => ?_)
            · exact HeldD.more (show HeldD g (og + kk) gr o2 (.slice (some ⟨gr, o2, none⟩) 2 ci) (.int .i64 x) (.int .i64 y) w3 w7 from ⟨H7.out, X7.out⟩) (by (repeat (first | exact Ext.refl _ | assumption | refine Ext.alloc ?_ _ | refine Ext.drewN ?_ _ | refine Ext.drew ?_)))
            clear hK K
            (try go_frame)
            refine wpAnyH_ready (rs := [15]) (by kernel_rfl) (by simp) ?_
            refine AllReadyH.cons (by simp only [List.getElem?_toArray, List.getElem?_cons_succ, List.getElem?_cons_zero]; rfl) (fun K hK => ?_) AllReadyH.nil
            refine step_append_lsA rfl _ _ _ rfl w3.heap.size (ek 3) 23 neE Tryz.underlying24 infoInts (.slice a10 j c10) (BK.map turnR) rfl (P7.out.ext (by (repeat (first | exact Ext.refl _ | assumption | refine Ext.alloc ?_ _ | refine Ext.drewN ?_ _ | refine Ext.drew ?_)))) _ (some ⟨w7.heap.size, 0, none⟩) 2 [y, x] rfl (by simp [go_sem]) ((OwnI.lit2 w7 w7.heap.size 3 y x (Nat.le_refl _)).intsE.ext (by (repeat (first | exact Ext.refl _ | assumption | refine Ext.alloc ?_ _ | refine Ext.drewN ?_ _ | refine Ext.drew ?_)))) (by simp) (by have := HL10'.out; omega) (by simp; omega) ?_
            intro v8 w8 o8 g8 t8
            have X8 := Lib.hid (OwnLs.grown (P7.out.ext (by (repeat (first | exact Ext.refl _ | assumption | refine Ext.alloc ?_ _ | refine Ext.drewN ?_ _ | refine Ext.drew ?_)))) (X7.out.trans (by (repeat (first | exact Ext.refl _ | assumption | refine Ext.alloc ?_ _ | refine Ext.drewN ?_ _ | refine Ext.drew ?_)))) g8)
            refine hK.out _ _ ?_ (fun hHeld => ?_)
            · exact ⟨HQ3.out.ext X8.out, X8.out⟩
            clear hK K
            (try go_frame)
            (refine wpAnyH_take (i := 16) (v := ?v16d) (by simp only [List.getElem?_toArray, List.getElem?_cons_succ, List.getElem?_cons_zero]; rfl) (by kernel_rfl) (by kernel_rfl) (by kernel_rfl) (by exact fun _ _ _ h => h) (Or.inl ⟨by rfl, ?y16d⟩) (by assumption) ?r16d)
            case y16d =>
              intro w hSw
              obtain ⟨⟨hs0, hs1, hs2⟩, -⟩ := hSw
              go_simp
              all_goals (with_reducible rfl)
            (try go_frame)
            refine wpAnyH_done (by kernel_rfl) ?_ _
            have O8a := Lib.hid (OwnLs.beside (O7.out.ext (by (repeat (first | exact Ext.refl _ | assumption | refine Ext.alloc ?_ _ | refine Ext.drewN ?_ _ | refine Ext.drew ?_)))) (P7.out.ext (by (repeat (first | exact Ext.refl _ | assumption | refine Ext.alloc ?_ _ | refine Ext.drewN ?_ _ | refine Ext.drew ?_)))) B7.out.symm g8 neE)
            have B8 := Lib.hid (Bes.symm (Bes.pushed (v' := v8) B7.out.symm (O7.out.ext (by (repeat (first | exact Ext.refl _ | assumption | refine Ext.alloc ?_ _ | refine Ext.drewN ?_ _ | refine Ext.drew ?_)))) t8))
            have O8 : Hid (OwnLs w8 w3.heap.size (ek 3) 23 v8 ((bkTo L nL (j + 1)).map turnR)) := by
              rw [hS.out, List.map_append]
              show OwnLs w8 w3.heap.size (ek 3) 23 v8 (BK.map turnR ++ [turnR R])
              rw [HRw.out]; exact o8
            clear o8 g8 t8 K0d
            go_wp2
            go_roundw
            case rel => exact Lib.hid ⟨j + 1, (kk : Int) - 1, by omega, by have := HKK.out; omega, by go_num, O8a.out, O8.out, B8.out, X8.out⟩
            case measure => first | (simp [intOf]; done) | (simp [intOf]; omega)
          · obtain rfl : j = nL := by omega
            have hkm : k = -1 := by omega
            clear hkj
            subst hkm
            have XW := Lib.hid (X3.out.trans HX.out)
            have HB3 := Lib.hid (HB1.out.ext XW.out)
            have CIb : Hid (∀ w', Ext wr w' → Calls Tryz.prog 11 #[.slice ae ne ce, .slice af nf cf, .slice a9 j c9] w' fun r w'' => r = .returned (.bool true) ∧ Ext w' w'') := fun w' x => by
              have h := CI.out w' a9 c9 (bkTo L j j) (XW.out.trans x) (HO9.out.ext x).rows (by rw [HL9.out]; omega)
              rw [HL9.out, HBk.out] at h; exact h
            have CIt : Hid (∀ w', Ext wr w' → Calls Tryz.prog 11 #[.slice af nf cf, .slice ae ne ce, .slice a10 j c10] w' fun r w'' => r = .returned (.bool true) ∧ Ext w' w'') := fun w' x => by
              have h := CI2.out w' a10 c10 ((bkTo L j j).map turnR) (XW.out.trans x) (HO10.out.ext x).rows (by rw [HL10.out]; omega)
              rw [HL10.out, HTn.out] at h; exact h
            clear CI CI2 HBk HTn HTwo HO9 HO10 HBs HL9 HL10 HB1 HR3
            go_wp2_with fail
            refine (drawTraceBy_c a1 c1 l1 _ (HB3.out.ext (by (repeat (first | exact Ext.refl _ | assumption | refine Ext.alloc ?_ _ | refine Ext.drewN ?_ _ | refine Ext.drew ?_)))) hb1 hcap1).mono ?_
            rintro e w4 ⟨v1, v2, M1, M2, rfl, o1, o2, hm1, hm2, x4⟩
            obtain ⟨b2, d2, rfl, -⟩ := o2.shape
            have f2 := o2.fit
            have I2 := Lib.hid o2.intsE
            have X4 := Lib.hid (Ext.trans (show Ext wr _ by (repeat (first | exact Ext.refl _ | assumption | refine Ext.alloc ?_ _ | refine Ext.drewN ?_ _ | refine Ext.drew ?_))) x4)
            obtain ⟨b1, d1, rfl, -⟩ := o1.shape
            clear o1 o2 x4 HB3 hm1
            generalize M1.length = nm1 at *
            generalize hnm2 : M2.length = nm2 at *
            have HM2 := Lib.hid hnm2
            clear hnm2
            go_wp2_with fail
            refine (allTracesI_c _).mono ?_
            rintro e w5 ⟨v5, T, rfl, o5, s5, x5⟩
            obtain ⟨wb, hwb⟩ : ∃ wb, wb = w4 := ⟨_, rfl⟩
            subst hwb
            obtain ⟨a5, c5, rfl⟩ := o5.shape
            have O5 := Lib.hid o5
            have S5 := Lib.hid s5
            have hl5 := s5.1
            have I5 := Lib.hid (I2.out.ext (Ext.trans (by (repeat (first | exact Ext.refl _ | assumption | refine Ext.alloc ?_ _ | refine Ext.drewN ?_ _ | refine Ext.drew ?_))) x5))
            have XB5 := Lib.hid x5
            have XBW := X4
            clear o5 s5 x5 I2 X4
            go_wp2_with (at_builtin; refine any_append_lsA (by rfl) _ _ _ rfl wb.heap.size (ek 3) 23 neE Tryz.underlying24 infoInts (.slice a5 T.length c5) T rfl (O5.out.ext (by (repeat (first | exact Ext.refl _ | assumption | refine Ext.alloc ?_ _ | refine Ext.drewN ?_ _ | refine Ext.drew ?_)))) _ b2 d2 M2 rfl (by rw [HM2.out]; simp [go_sem]) (I5.out.ext (by (repeat (first | exact Ext.refl _ | assumption | refine Ext.alloc ?_ _ | refine Ext.drewN ?_ _ | refine Ext.drew ?_)))) (by rw [HM2.out]; exact f2) (by omega) (by have := XB5.out.size; simp; omega) ?_)
            intro v6 w6 o6 g6 t6
            have X6 := Lib.hid (OwnLs.grown (w0 := wb) (O5.out.ext (by (repeat (first | exact Ext.refl _ | assumption | refine Ext.alloc ?_ _ | refine Ext.drewN ?_ _ | refine Ext.drew ?_)))) (XB5.out.trans (by (repeat (first | exact Ext.refl _ | assumption | refine Ext.alloc ?_ _ | refine Ext.drewN ?_ _ | refine Ext.drew ?_)))) g6)
            obtain ⟨gT, a6, c6, hv6, hrows6⟩ : ∃ gT a6 c6, v6 = .slice a6 (T.length + 1) c6 ∧ (a6 = some ⟨gT, 0, none⟩ ∧ gT < w6.heap.size ∧ ∀ i, i < T.length + 1 → ∃ ai ci, w6.cell? ⟨gT, i, none⟩ = some (.slice ai (rowI (T ++ [M2]) i).length ci) ∧ (rowI (T ++ [M2]) i).length ≤ ci ∧ IntsE w6 (ek 3) ai (rowI (T ++ [M2]) i)) := by
              obtain ⟨a6, c6, rfl⟩ := o6.shape
              have hl : (T ++ [M2]).length = T.length + 1 := by simp
              obtain ⟨gT, e1, -, e2, -, e3⟩ := o6.row (by omega)
              rw [hl] at e3
              exact ⟨gT, a6, c6, by rw [hl], e1, e2, e3⟩
            obtain ⟨rfl, hgT, hrows⟩ := hrows6
            subst hv6
            have HRows := Lib.hid hrows
            have X6W : Hid (Ext wr w6) := XBW.out.trans X6.out
            have HLen : Hid (∀ i, i < T.length + 1 → (rowI (T ++ [M2]) i).length ≤ 43) := fun i hi => by
              have hm : rowI (T ++ [M2]) i ∈ T ++ [M2] := by
                rw [rowI_getElem _ _ (by simp; omega)]; exact List.getElem_mem _
              rcases List.mem_append.1 hm with h | h
              · have := S5.out.2 _ h; omega
              · rw [List.mem_singleton] at h; rw [h, HM2.out]; omega
            clear o6 g6 t6 hrows O5 I5 S5
            obtain ⟨n, hn⟩ : ∃ n, n = T.length + 1 := ⟨_, rfl⟩
            rw [← hn] at HRows HLen ⊢
            have hn60 : n ≤ 60 := by omega
            have hnc : ((T.length : Int) + 1) = (n : Int) := by omega
            have HNC := Lib.hid hnc
            clear hn hnc hl5
            try rw [HNC.out]
            go_wp2
            obtain ⟨wo, hwo⟩ : ∃ wo, wo = wr := ⟨_, rfl⟩
            subst hwo
            go_loopw [15] (fun i wr => Hid (∃ k : Nat, k ≤ n ∧ i = .int .i64 k ∧ Ext w6 wr)) (fun i _ => n - (intOf i).toNat)
            case atStart => exact Lib.hid ⟨0, Nat.zero_le _, rfl, by (repeat (first | exact Ext.refl _ | assumption | refine Ext.alloc ?_ _ | refine Ext.drewN ?_ _ | refine Ext.drew ?_))⟩
            case round =>
              obtain ⟨k, hk, rfl, hx⟩ := hrel.out
              have HX6 := Lib.hid hx
              clear hrel hx
              have XL := Lib.hid (X6W.out.trans HX6.out)
              by_cases hkn : k < n
              · have hki : (k : Int) < (n : Int) := by omega
                obtain ⟨ai, ci, d0, hci, hi⟩ := HRows.out k hkn
                have hl43 := HLen.out k hkn
                have HA : Hid (w6.cell? ⟨gT, k, none⟩ = some (.slice ai (rowI (T ++ [M2]) k).length ci)) := d0
                have TE1 : Hid (∀ w', Ext wr w' → Calls Tryz.prog 16 #[.slice ae ne ce, .slice ai (rowI (T ++ [M2]) k).length ci] w' fun r w'' => r = .returned (.bool (tbB F (rowI (T ++ [M2]) k))) ∧ Ext w' w'') := fun w' x => by
                  rw [← HTb.out]
                  exact TE.out w' ai ci _ (XW.out.trans (XL.out.trans x)) (hi.1.ext (HX6.out.trans x)) (by omega)
                have TF1 : Hid (∀ w', Ext wr w' → Calls Tryz.prog 16 #[.slice af nf cf, .slice ai (rowI (T ++ [M2]) k).length ci] w' fun r w'' => r = .returned (.bool (tbB F (rowI (T ++ [M2]) k))) ∧ Ext w' w'') := fun w' x =>
                  TF.out w' ai ci _ (XW.out.trans (XL.out.trans x)) (hi.1.ext (HX6.out.trans x)) (by omega)
                clear d0 hci hi hl43
                generalize tbB F (rowI (T ++ [M2]) k) = BB at *
                generalize (rowI (T ++ [M2]) k).length = nr at *
                have hbb : (BB != BB) = false := by simp
                go_wp2
                have K0a : HeldA gT k (.slice ai nr ci) wr wr.drew := ⟨(HX6.out.trans (by (repeat (first | exact Ext.refl _ | assumption | refine Ext.alloc ?_ _ | refine Ext.drewN ?_ _ | refine Ext.drew ?_)))).cell' HA.out hgT, by (repeat (first | exact Ext.refl _ | assumption | refine Ext.alloc ?_ _ | refine Ext.drewN ?_ _ | refine Ext.drew ?_))⟩
                refine wp_region_held_drew (S := HeldA gT k (.slice ai nr ci) wr) (by kernel_rfl) K0a (fun hHeld => ?_)
                (refine wpAnyH_take (i := 0) (v := ?v0a) (by simp only [List.getElem?_toArray, List.getElem?_cons_zero]; rfl) (by kernel_rfl) (by kernel_rfl) (by kernel_rfl) (by exact fun _ _ _ h => h) (Or.inl ⟨by rfl, ?y0a⟩) (by assumption) ?r0a)
                case y0a =>
                  intro w hSw
                  obtain ⟨hs0, -⟩ := hSw
                  go_simp
                  all_goals (with_reducible rfl)
                (try go_frame)
                (refine wpAnyH_take (i := 1) (v := ?v1a) (by simp only [List.getElem?_toArray, List.getElem?_cons_succ, List.getElem?_cons_zero]; rfl) (by kernel_rfl) (by kernel_rfl) (by kernel_rfl) (by exact fun _ _ _ h => h) (Or.inl ⟨by rfl, ?y1a⟩) (by assumption) ?r1a)
                case y1a =>
                  intro w hSw
                  obtain ⟨hs0, -⟩ := hSw
                  go_simp
                  all_goals (with_reducible rfl)
                (try go_frame)
                (refine wpAnyH_take (i := 2) (v := ?v2a) (by simp only [List.getElem?_toArray, List.getElem?_cons_succ, List.getElem?_cons_zero]; rfl) (by kernel_rfl) (by kernel_rfl) (by kernel_rfl) (by exact fun _ _ _ h => h) (Or.inl ⟨by rfl, ?y2a⟩) (by assumption) ?r2a)
                case y2a =>
                  intro w hSw
                  obtain ⟨hs0, -⟩ := hSw
                  go_simp
                  all_goals (with_reducible rfl)
                (try go_frame)
                (refine wpAnyH_take (i := 3) (v := ?v3a) (by simp only [List.getElem?_toArray, List.getElem?_cons_succ, List.getElem?_cons_zero]; rfl) (by kernel_rfl) (by kernel_rfl) (by kernel_rfl) (by exact fun _ _ _ h => h) (Or.inl ⟨by rfl, ?y3a⟩) (by assumption) ?r3a)
                case y3a =>
                  intro w hSw
                  obtain ⟨hs0, -⟩ := hSw
                  go_simp
                  all_goals (with_reducible rfl)
                (try go_frame)
                (refine wpAnyH_take (i := 4) (v := ?v4a) (by simp only [List.getElem?_toArray, List.getElem?_cons_succ, List.getElem?_cons_zero]; rfl) (by kernel_rfl) (by kernel_rfl) (by kernel_rfl) (by exact fun _ _ _ h => h) (Or.inl ⟨by rfl, ?y4a⟩) (by assumption) ?r4a)
                case y4a =>
                  intro w hSw
                  obtain ⟨hs0, -⟩ := hSw
                  go_simp
                  all_goals (with_reducible rfl)
                (try go_frame)
                (refine wpAnyH_take (i := 6) (v := ?v6a) (by simp only [List.getElem?_toArray, List.getElem?_cons_succ, List.getElem?_cons_zero]; rfl) (by kernel_rfl) (by kernel_rfl) (by kernel_rfl) (by exact fun _ _ _ h => h) (Or.inl ⟨by rfl, ?y6a⟩) (by assumption) ?r6a)
                case y6a =>
                  intro w hSw
                  obtain ⟨hs0, -⟩ := hSw
                  go_simp
                  all_goals (with_reducible rfl)
                (try go_frame)
                (refine wpAnyH_take (i := 7) (v := ?v7a) (by simp only [List.getElem?_toArray, List.getElem?_cons_succ, List.getElem?_cons_zero]; rfl) (by kernel_rfl) (by kernel_rfl) (by kernel_rfl) (by exact fun _ _ _ h => h) (Or.inl ⟨by rfl, ?y7a⟩) (by assumption) ?r7a)
                case y7a =>
                  intro w hSw
                  obtain ⟨hs0, -⟩ := hSw
                  go_simp
                  all_goals (with_reducible rfl)
                (try go_frame)
                (refine wpAnyH_take (i := 8) (v := ?v8a) (by simp only [List.getElem?_toArray, List.getElem?_cons_succ, List.getElem?_cons_zero]; rfl) (by kernel_rfl) (by kernel_rfl) (by kernel_rfl) (by exact fun _ _ _ h => h) (Or.inl ⟨by rfl, ?y8a⟩) (by assumption) ?r8a)
                case y8a =>
                  intro w hSw
                  obtain ⟨hs0, -⟩ := hSw
                  go_simp
                  all_goals (with_reducible rfl)
                (try go_frame)
                (refine wpAnyH_take (i := 9) (v := ?v9a) (by simp only [List.getElem?_toArray, List.getElem?_cons_succ, List.getElem?_cons_zero]; rfl) (by kernel_rfl) (by kernel_rfl) (by kernel_rfl) (by exact fun _ _ _ h => h) (Or.inl ⟨by rfl, ?y9a⟩) (by assumption) ?r9a)
                case y9a =>
                  intro w hSw
                  obtain ⟨hs0, -⟩ := hSw
                  go_simp
                  all_goals (with_reducible rfl)
                (try go_frame)
                (refine wpAnyH_take (i := 10) (v := ?v10a) (by simp only [List.getElem?_toArray, List.getElem?_cons_succ, List.getElem?_cons_zero]; rfl) (by kernel_rfl) (by kernel_rfl) (by kernel_rfl) (by exact fun _ _ _ h => h) (Or.inl ⟨by rfl, ?y10a⟩) (by assumption) ?r10a)
                case y10a =>
                  intro w hSw
                  obtain ⟨hs0, -⟩ := hSw
                  go_simp
                  all_goals (with_reducible rfl)
                (try go_frame)
                refine wpAnyH_ready (rs := [5]) (by kernel_rfl) (by simp) ?_
                refine AllReadyH.cons (by simp only [List.getElem?_toArray, List.getElem?_cons_succ, List.getElem?_cons_zero]; rfl) (fun K hK => ?_) AllReadyH.nil
                go_simp
                (go_at_call 16; with_reducible refine (TE1.out _ (And.right (show HeldA gT k (.slice ai nr ci) wr _ by assumption))).mono ?_; rintro e wk ⟨rfl, yk⟩)
                refine hK.out _ _ ?_ (fun hHeld => ?_)
                · exact HeldA.more (by assumption) yk
                clear hK K
                (try go_frame)
                refine wpAnyH_ready (rs := [11]) (by kernel_rfl) (by simp) ?_
                refine AllReadyH.cons (by simp only [List.getElem?_toArray, List.getElem?_cons_succ, List.getElem?_cons_zero]; rfl) (fun K hK => ?_) AllReadyH.nil
                go_simp
                (go_at_call 16; with_reducible refine (TF1.out _ (And.right (show HeldA gT k (.slice ai nr ci) wr _ by assumption))).mono ?_; rintro e wk ⟨rfl, yk⟩)
                refine hK.out _ _ ?_ (fun hHeld => ?_)
                · exact HeldA.more (by assumption) yk
                clear hK K
                (try go_frame)
                (refine wpAnyH_take (i := 12) (v := ?v12a) (by simp only [List.getElem?_toArray, List.getElem?_cons_succ, List.getElem?_cons_zero]; rfl) (by kernel_rfl) (by kernel_rfl) (by kernel_rfl) (by exact fun _ _ _ h => h) (Or.inl ⟨by rfl, ?y12a⟩) (by assumption) ?r12a)
                case y12a =>
                  intro w hSw
                  obtain ⟨hs0, -⟩ := hSw
                  go_simp
                  all_goals (with_reducible rfl)
                (try go_frame)
                refine wpAnyH_done (by kernel_rfl) ?_ _
                have XR := Lib.hid (And.right (show HeldA gT k (.slice ai nr ci) wr _ by assumption))
                go_wp2
                go_roundw
                case rel => exact Lib.hid ⟨k + 1, by omega, by go_num, HX6.out.trans XR.out⟩
                case measure => simp [intOf]; omega
              · obtain rfl : k = n := by omega
                clear TE TF HRows HLen
                go_wp2_with fail
                refine (CD.out _ (XW.out.trans (XL.out.trans (by (repeat (first | exact Ext.refl _ | assumption | refine Ext.alloc ?_ _ | refine Ext.drewN ?_ _ | refine Ext.drew ?_)))))).mono ?_
                rintro e w7 ⟨a8, c8, rfl, -, x7⟩
                have X7 := Lib.hid (XL.out.trans (Ext.trans (by (repeat (first | exact Ext.refl _ | assumption | refine Ext.alloc ?_ _ | refine Ext.drewN ?_ _ | refine Ext.drew ?_))) x7))
                clear x7 CD
                go_wp2_with (first
                  | (go_at_call 11; with_reducible refine (CIb.out _ (X7.out.trans (by (repeat (first | exact Ext.refl _ | assumption | refine Ext.alloc ?_ _ | refine Ext.drewN ?_ _ | refine Ext.drew ?_))))).mono ?_; rintro e w8 ⟨rfl, y8⟩; have X8 := Lib.hid (X7.out.trans (Ext.trans (by (repeat (first | exact Ext.refl _ | assumption | refine Ext.alloc ?_ _ | refine Ext.drewN ?_ _ | refine Ext.drew ?_))) y8)); clear y8)
                  | (go_at_call 11; with_reducible refine (CIt.out _ (X8.out.trans (by (repeat (first | exact Ext.refl _ | assumption | refine Ext.alloc ?_ _ | refine Ext.drewN ?_ _ | refine Ext.drew ?_))))).mono ?_; rintro e w9 ⟨rfl, y9⟩; have X9 := Lib.hid (X8.out.trans (Ext.trans (by (repeat (first | exact Ext.refl _ | assumption | refine Ext.alloc ?_ _ | refine Ext.drewN ?_ _ | refine Ext.drew ?_))) y9)); clear y9))
                go_ret
                exact ⟨rfl, X1.out.trans (XW.out.trans (X9.out.trans (by (repeat (first | exact Ext.refl _ | assumption | refine Ext.alloc ?_ _ | refine Ext.drewN ?_ _ | refine Ext.drew ?_)))))⟩
    · go_enter Tryz.func3, Tryz.ntmps3
      go_wp2
      go_ret
      exact ⟨rfl, Ext.refl _⟩
  · go_enter Tryz.func3, Tryz.ntmps3
    go_wp2
    go_ret
    exact ⟨rfl, Ext.refl _⟩
end Go.Proofs.YtlaamecfknkmlaaGreat
