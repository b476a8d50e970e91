/- Merged texts: contracts and plain lemmas (Df). -/
import Derived.Test.YtlaamecfknkmlaaGreatGtSp
import Derived.Test.YtlaamecfknkmlaaGreatGt16
import Derived.Test.YtlaamecfknkmlaaGreatGtNg
import Derived.Test.YtlaamecfknkmlaaGreatGt8
import Derived.Deep.RegionHeld3
import Derived.Lib.QuietBelow
namespace Go.Kt
set_option linter.unusedVariables false
abbrev HeldV (ba bb g k gr o : Nat) (v0 v1 u0 u1 vs x y : Value) (w : World) : Prop := ((w.cell? ⟨ba, 0, none⟩ = some v0 ∧ w.cell? ⟨ba, 1, none⟩ = some v1) ∧ w.cell? ⟨bb, 0, none⟩ = some u0 ∧ w.cell? ⟨bb, 1, none⟩ = some u1) ∧ w.cell? ⟨g, k, none⟩ = some vs ∧ w.cell? ⟨gr, o, none⟩ = some x ∧ w.cell? ⟨gr, o + 1, none⟩ = some y
theorem HeldV.more {ba bb g k gr o : Nat} {v0 v1 u0 u1 vs x y : Value} {w w' : World} (h : HeldV ba bb g k gr o v0 v1 u0 u1 vs x y w) (e : Ext w w') : HeldV ba bb g k gr o v0 v1 u0 u1 vs x y w' :=
  ⟨⟨⟨e.cell' h.1.1.1 (lt_of_cell h.1.1.1), e.cell' h.1.1.2 (lt_of_cell h.1.1.2)⟩, e.cell' h.1.2.1 (lt_of_cell h.1.2.1), e.cell' h.1.2.2 (lt_of_cell h.1.2.2)⟩, e.cell' h.2.1 (lt_of_cell h.2.1), e.cell' h.2.2.1 (lt_of_cell h.2.2.1), e.cell' h.2.2.2 (lt_of_cell h.2.2.2)⟩
abbrev HeldW (ba bb g k gr o : Nat) (v0 v1 u0 u1 vs x y : Value) (w0 w : World) : Prop := HeldV ba bb g k gr o v0 v1 u0 u1 vs x y w ∧ Ext w0 w
theorem HeldW.more {ba bb g k gr o : Nat} {v0 v1 u0 u1 vs x y : Value} {w0 w w' : World} (h : HeldW ba bb g k gr o v0 v1 u0 u1 vs x y w0 w) (e : Ext w w') : HeldW ba bb g k gr o v0 v1 u0 u1 vs x y w0 w' := ⟨h.1.more e, h.2.trans e⟩
/-- A list of lists beside blocks that are older. -/
theorem OwnLs.young {w w' : World} {B : Nat} {E : Ek} {ER : Nat} {u : Value} {mm : List (List Int)} {v : Value} (hu : OwnLs w B E ER u mm) (hv : ∀ k, v.ownBlock = some k → k < B) (hg : w.grownBy w' v.ownBlock) (hty : ∀ k, v.ownBlock = some k → ∃ cs fz, w.heap[k]? = some (.cells cs ER fz)) (hE : E.t ≠ ER) : OwnLs w' B E ER u mm := by
  refine hu.kept hg hty hE ?_
  cases h : u.ownBlock with
  | none => exact .inl rfl
  | some k =>
    refine .inr fun e => ?_
    have h1 := hu.lt k h
    have h2 := hv k e.symm
    omega
theorem Bes.swap {v u : Value} (h : Bes v u) : Bes u v := by
  rcases h with h | h
  · cases hv : v.ownBlock with
    | none => exact .inl hv
    | some k => exact .inr (by rw [h, hv]; simp)
  · exact .inr fun e => h e.symm
theorem Bes.pushN {v v' u : Value} {n : Nat} (h : Bes v u) (hu : ∀ k, u.ownBlock = some k → k < n) (hw : v'.ownBlock = v.ownBlock ∨ v'.ownBlock = some n) : Bes v' u := by
  rcases h with h | h
  · exact .inl h
  · rcases hw with e | e
    · exact .inr (by rw [e]; exact h)
    · refine .inr fun e' => ?_
      have := hu n (by rw [e', e])
      omega
theorem OwnI.capOf {w : World} {B E : Nat} {v : Value} {a : Option Addr} {n c : Nat} {l : List Int} (h : OwnI w B E v l) (hv : v = .slice a n c) : l.length ≤ c := by
  subst hv
  have h2 := h
  obtain ⟨n', c', e, -⟩ := h.shape
  injection e with e1 e2 e3
  subst e2
  exact own_capv h2
end Go.Kt
namespace Go.Proofs.YtlaamecfknkmlaaGreat
set_option linter.unusedVariables false
open Go.RowKit Go.Kt Go.Sort
set_option maxRecDepth 100000 in
set_option maxHeartbeats 8000000 in
theorem sDiffer_c (a b : Option Addr) (c d : Nat) (e f : List Int) (w : World) (he : IntsAt w a e) (hf : IntsAt w b f) (hle : e.length ≤ 4194304) (hlf : f.length ≤ 4194304) :
    Calls Tryz.prog 38 #[.slice a e.length c, .slice b f.length d] w (RetTr w (difO e f)) := by
  have CP : Hid (∀ w', Ext w w' → Calls Tryz.prog 53 #[.slice a e.length c, .slice b f.length d] w' (RetLs (ek 3) 23 w' (prsF e f))) := fun w' x => sPairsOf_c a b c d e f w' (he.ext x) (hf.ext x) hle hlf (fun _ => False) (fun _ h => h.elim)
  have CA : Hid (∀ w', Ext w w' → Calls Tryz.prog 59 #[.slice a e.length c] w' (RetAu w' e)) := fun w' x => sAutoOf_c a c e w' (he.ext x) hle
  have CB : Hid (∀ w', Ext w w' → Calls Tryz.prog 59 #[.slice b f.length d] w' (RetAu w' f)) := fun w' x => sAutoOf_c b d f w' (hf.ext x) hlf
  clear he hf
  have hpz := prsF_zero (e := e) (f := f)
  cases hb : difB e f
  · have h0 : (prsF e f).length = 0 := hpz.2 hb
    have HR : Hid (∀ a' c' w', Ext w w' → RetTr w (difO e f) (.returned (.tuple #[.slice a' 0 c', .bool false])) w') := fun a' c' w' x => by
      have : difO e f = none := by unfold difO; rw [hb]; rfl
      rw [this]; exact ⟨a', c', rfl, ⟨0, 0, fun h => absurd h (by simp), fun i hi => absurd hi (by simp)⟩, x⟩
    clear hpz hb
    generalize RetTr w (difO e f) = FQ at *
    generalize e.length = ne at *
    generalize f.length = nf at *
    go_enter Tryz.func38, Tryz.ntmps38
    go_wp2_with fail
    refine (CP.out _ (by (repeat (first | exact Ext.refl _ | assumption | refine Ext.alloc ?_ _ | refine Ext.drewN ?_ _ | refine Ext.drew ?_)))).mono ?_
    rintro r w1 ⟨vP, rfl, oP, x1⟩
    obtain ⟨aP, cP, rfl⟩ := oP.shape
    have X1 := Lib.hid (Ext.trans (show Ext w _ by (repeat (first | exact Ext.refl _ | assumption | refine Ext.alloc ?_ _ | refine Ext.drewN ?_ _ | refine Ext.drew ?_))) x1)
    clear oP x1
    rw [h0]
    go_wp2
    exact HR.out _ _ _ (X1.out.trans (by (repeat (first | exact Ext.refl _ | assumption | refine Ext.alloc ?_ _ | refine Ext.drewN ?_ _ | refine Ext.drew ?_))))
  · have h0 : (prsF e f).length ≠ 0 := fun h => by rw [hpz.1 h] at hb; cases hb
    obtain ⟨h1, h2, -⟩ := difB_of hb
    have hA := auto_of e
    have hB := auto_of f
    have HD : Hid (difO e f = dfF (auE e) (auE f) (auN e) (auN f) 21 0) := by unfold Hid difO; rw [hb]; rfl
    have HBd : Hid (∀ a, (stW (auN e) (auN f) a).1.length ≤ 1048576 ∧ (stW (auN e) (auN f) a).2.length ≤ 1048576) := fun a => stW_len hA hB a
    have HIn : Hid (∀ a k m, m ≤ 12 → ∀ v, (addW (auN e) (auN f) (lvW (auN e) (auN f) (stW (auN e) (auN f) a).1 (stW (auN e) (auN f) a).2 k) v m).2.length ≤ 1048576) := fun a k m hm v => inW_len hA hB a k m hm v
    have HWk : Hid (∀ a v, v ∈ (stW (auN e) (auN f) a).2 → v.2.length = 2 * a) := fun a v hv => (stW_ok (auN e) (auN f) a v hv).len
    have HPl : Hid (∀ a k, k < (stW (auN e) (auN f) a).2.length → (atW (stW (auN e) (auN f) a).2 k).1.1 < 4294967296 ∧ (atW (stW (auN e) (auN f) a).2 k).1.2 < 4294967296) := fun a k hk => wayP_lt hA hB a k hk
    have SX : Hid (∀ w' a1 c1 a2 c2 (p m : Nat), RowsAt w' a2 (auN e) → p < 4294967296 → m < 12 → Calls Tryz.prog 63 #[autV a1 (auE e).length c1 a2 (auN e).length c2, .int .i64 p, .int .i64 m] w' fun r w'' => r = .returned (.int .i64 (stp (auN e) p m : Nat)) ∧ Ext w' w'') :=
      fun w' a1 c1 a2 c2 p m hr hp hm => l5Step_c a1 a2 c1 c2 (auE e) (auN e) p m w' hr hA hp hm
    have SY : Hid (∀ w' a1 c1 a2 c2 (p m : Nat), RowsAt w' a2 (auN f) → p < 4294967296 → m < 12 → Calls Tryz.prog 63 #[autV a1 (auE f).length c1 a2 (auN f).length c2, .int .i64 p, .int .i64 m] w' fun r w'' => r = .returned (.int .i64 (stp (auN f) p m : Nat)) ∧ Ext w' w'') :=
      fun w' a1 c1 a2 c2 p m hr hp hm => l5Step_c a1 a2 c1 c2 (auE f) (auN f) p m w' hr hB hp hm
    have TX : Hid (∀ w' a1 c1 a2 c2 (p : Nat), IntsAt w' a1 (auE e) → p < 4294967296 → Calls Tryz.prog 62 #[autV a1 (auE e).length c1 a2 (auN e).length c2, .int .i64 p] w' fun r w'' => r = .returned (.int .i64 (img (auE e) p : Nat)) ∧ Ext w' w'') :=
      fun w' a1 c1 a2 c2 p hr hp => l5Ends_c a1 a2 c1 _ c2 (auE e) (auN e) p w' hr hA hp
    have TY : Hid (∀ w' a1 c1 a2 c2 (p : Nat), IntsAt w' a1 (auE f) → p < 4294967296 → Calls Tryz.prog 62 #[autV a1 (auE f).length c1 a2 (auN f).length c2, .int .i64 p] w' fun r w'' => r = .returned (.int .i64 (img (auE f) p : Nat)) ∧ Ext w' w'') :=
      fun w' a1 c1 a2 c2 p hr hp => l5Ends_c a1 a2 c1 _ c2 (auE f) (auN f) p w' hr hB hp
    have hIA : Hid (∀ p, img (auE e) p < 16) := fun p => ends_of_lt hA p
    have hIB : Hid (∀ p, img (auE f) p < 16) := fun p => ends_of_lt hB p
    have HR : Hid (∀ a' c' w' o, dfF (auE e) (auE f) (auN e) (auN f) 21 0 = o → IntsAt w' a' (o.getD []) → Ext w w' → RetTr w (difO e f) (.returned (.tuple #[.slice a' (o.getD []).length c', .bool o.isSome])) w') := fun a' c' w' o ho hi x => by
      rw [HD.out, ho]; exact ⟨a', c', rfl, hi, x⟩
    clear hpz hb h1 h2 hA hB HD
    generalize RetTr w (difO e f) = FQ at *
    generalize e.length = ne at *
    generalize f.length = nf at *
    generalize hnp : (prsF e f).length = np at *
    have HNP := Lib.hid hnp
    clear hnp
    have hnp0 : ((np : Int) == 0) = false := by simp; omega
    have hnp1 : ¬ ((np : Int) = 0) := by omega
    go_enter Tryz.func38, Tryz.ntmps38
    go_wp2_with fail
    refine (CP.out _ (by (repeat (first | exact Ext.refl _ | assumption | refine Ext.alloc ?_ _ | refine Ext.drewN ?_ _ | refine Ext.drew ?_)))).mono ?_
    rintro r w0 ⟨vP, rfl, oP, x0⟩
    obtain ⟨aP, cP, rfl⟩ := oP.shape
    have X0 := Lib.hid (Ext.trans (show Ext w _ by (repeat (first | exact Ext.refl _ | assumption | refine Ext.alloc ?_ _ | refine Ext.drewN ?_ _ | refine Ext.drew ?_))) x0)
    clear oP x0 CP
    rw [HNP.out]
    go_wp2_with fail
    refine (CA.out _ (X0.out.trans (by (repeat (first | exact Ext.refl _ | assumption | refine Ext.alloc ?_ _ | refine Ext.drewN ?_ _ | refine Ext.drew ?_))))).mono ?_
    rintro r w1 ⟨a1, c1, a2, c2, rfl, r1, x1⟩
    have R1 := Lib.hid r1
    have X1 := Lib.hid (X0.out.trans (Ext.trans (by (repeat (first | exact Ext.refl _ | assumption | refine Ext.alloc ?_ _ | refine Ext.drewN ?_ _ | refine Ext.drew ?_))) x1))
    clear r1 x1 CA X0 h0 HNP
    go_wp2_with fail
    refine (CB.out _ (X1.out.trans (by (repeat (first | exact Ext.refl _ | assumption | refine Ext.alloc ?_ _ | refine Ext.drewN ?_ _ | refine Ext.drew ?_))))).mono ?_
    rintro r w2 ⟨b1, d1, b2, d2, rfl, r2, x2⟩
    have RB := Lib.hid r2
    have RA := Lib.hid (R1.out.ext (Ext.trans (by (repeat (first | exact Ext.refl _ | assumption | refine Ext.alloc ?_ _ | refine Ext.drewN ?_ _ | refine Ext.drew ?_))) x2))
    have p0 : w2.cell? ⟨w1.heap.size, 0, none⟩ = some (.slice a1 (auE e).length c1) := x2.cell' (by simp [go_sem]) (by simp)
    have p1 : w2.cell? ⟨w1.heap.size, 1, none⟩ = some (.slice a2 (auN e).length c2) := x2.cell' (by simp [go_sem]) (by simp)
    have X2 := Lib.hid (X1.out.trans (Ext.trans (by (repeat (first | exact Ext.refl _ | assumption | refine Ext.alloc ?_ _ | refine Ext.drewN ?_ _ | refine Ext.drew ?_))) x2))
    have hz12 := x2.size
    simp at hz12
    clear r2 x2 CB X1 R1
    have RA1 := Lib.hid RA.out.1.ints
    have RA2 := Lib.hid RA.out.2.rows
    have RB1 := Lib.hid RB.out.1.ints
    have RB2 := Lib.hid RB.out.2.rows
    clear RA RB
    generalize (auE e).length = nE at *
    generalize (auN e).length = nN at *
    generalize (auE f).length = nF at *
    generalize (auN f).length = nM at *
    generalize auE e = E at *
    generalize auE f = F at *
    generalize auN e = N at *
    generalize auN f = M at *
    have HBx : Hid (∀ w', Ext (w2.alloc (.cells #[.slice b1 nF d1, .slice b2 nM d2] 63)) w' → (w'.cell? ⟨w1.heap.size, 0, none⟩ = some (.slice a1 nE c1) ∧ w'.cell? ⟨w1.heap.size, 1, none⟩ = some (.slice a2 nN c2)) ∧ (w'.cell? ⟨w2.heap.size, 0, none⟩ = some (.slice b1 nF d1) ∧ w'.cell? ⟨w2.heap.size, 1, none⟩ = some (.slice b2 nM d2))) := fun w' x =>
      ⟨⟨(Ext.trans ((Ext.refl w2).alloc _) x).cell' p0 (by omega), (Ext.trans ((Ext.refl w2).alloc _) x).cell' p1 (by omega)⟩, x.cell' (by simp [go_sem]) (by simp), x.cell' (by simp [go_sem]) (by simp)⟩
    clear p0 p1
    go_wp2
    obtain ⟨W, hW⟩ : ∃ W, W = w2.alloc (.cells #[.slice b1 nF d1, .slice b2 nM d2] 63) := ⟨_, rfl⟩
    have hWz : W.heap.size = w2.heap.size + 1 := by rw [hW]; simp
    rw [← hW] at HBx
    have X2W : Hid (Ext w2 W) := by rw [hW]; exact (Ext.refl _).alloc _
    go_loopw [8, 9, 10, 11] (fun vs vt vn i wr => Hid (∃ (a B : Nat), a ≤ 21 ∧ i = .int .i64 a ∧ w2.heap.size + 1 ≤ B ∧ dfF E F N M 21 0 = dfF E F N M (21 - a) a ∧ OwnLs wr (w2.heap.size + 1) (ek 3) 23 vs ((sAt N M a).map rowP) ∧ (∀ k, vs.ownBlock = some k → k < B) ∧ OwnLs wr B (ek 3) 23 vt ((stW N M a).2.map fun v => v.2) ∧ OwnLs wr B (ek 3) 23 vn ((stW N M a).2.map fun v => rowP v.1) ∧ B ≤ wr.heap.size ∧ Ext W wr)) (fun _ _ _ i _ => 21 - (intOf i).toNat)
    case atStart =>
      subst hW
      have HI2 : Hid (IntsE (((((w2.alloc (.cells #[.slice b1 nF d1, .slice b2 nM d2] 63)).alloc (.cells #[] 23)).alloc (.cells #[] 3)).alloc (.cells #[.slice (some ⟨w2.heap.size + 1 + 1, 0, none⟩) 0 0] 23)).alloc (.cells #[.int .i64 1, .int .i64 1] 3)) (ek 3) (some ⟨w2.heap.size + 1 + 1 + 1 + 1, 0, none⟩) [1, 1]) := by
        have h := OwnI.intsE (OwnI.lit2 ((((w2.alloc (.cells #[.slice b1 nF d1, .slice b2 nM d2] 63)).alloc (.cells #[] 23)).alloc (.cells #[] 3)).alloc (.cells #[.slice (some ⟨w2.heap.size + 1 + 1, 0, none⟩) 0 0] 23)) 0 3 1 1 (Nat.zero_le _))
        unfold Hid
        simpa using h
      have O0 := OwnLs.lit (ER := 23) (c := 2) (w2.heap.size + 2) HI2.out (by simp) (by simp)
      have T0 := OwnLs.lit (ER := 23) (w := ((w2.alloc (.cells #[.slice b1 nF d1, .slice b2 nM d2] 63)).alloc (.cells #[] 23)).alloc (.cells #[] 3)) (E := ek 3) (c := 0) (a := some ⟨w2.heap.size + 1 + 1, 0, none⟩) (l := []) (w2.heap.size + 2) (IntsE.nil _ _ _) (Nat.le_refl 0) (by simp)
      have T1 := T0.ext (((Ext.refl _).alloc (.cells #[.int .i64 1, .int .i64 1] 3)).alloc (.cells #[.slice (some ⟨w2.heap.size + 1 + 1 + 1 + 1, 0, none⟩) 2 2] 23))
      have S0 := OwnLs.empty' (w := w2.alloc (.cells #[.slice b1 nF d1, .slice b2 nM d2] 63)) (b := w2.heap.size + 1) (by simp) (ek 3) 23
      refine Lib.hid ⟨0, w2.heap.size + 2, by omega, rfl, by omega, rfl, S0.ext (by (repeat (first | exact Ext.refl _ | assumption | refine Ext.alloc ?_ _ | refine Ext.drewN ?_ _ | refine Ext.drew ?_))), fun k hk => by simp [Value.ownBlock] at hk <;> omega, ?_, ?_, by first | (simp; done) | (simp; omega), by (repeat (first | exact Ext.refl _ | assumption | refine Ext.alloc ?_ _ | refine Ext.drewN ?_ _ | refine Ext.drew ?_))⟩
      · show OwnLs _ _ _ _ _ [[]]
        simpa using T1
      · show OwnLs _ _ _ _ _ [[1, 1]]
        simpa using O0
    case round =>
      obtain ⟨l, B, hl21, rfl, hB1, hdf, hos, hsb, hot, hon, hBz, hx⟩ := hrel.out
      obtain ⟨as_, cs, rfl⟩ := hos.shape
      obtain ⟨at_, ct, rfl⟩ := hot.shape
      obtain ⟨an, cn, rfl⟩ := hon.shape
      have OS := Lib.hid hos
      have OT := Lib.hid hot
      have ON := Lib.hid hon
      have HSb := Lib.hid hsb
      have HDf := Lib.hid hdf
      have HX := Lib.hid hx
      clear hrel hos hot hon hsb hdf hx
      by_cases hl20 : l ≤ 20
      · have hli : (l : Int) ≤ 20 := by omega
        have hBd := HBd.out l
        have HWk1 : Hid (∀ v, v ∈ (stW N M l).2 → v.2.length + 1 ≤ 41) := fun v hv => by have := HWk.out l v hv; omega
        have hlt : ((stW N M l).2.map fun v => v.2).length = (stW N M l).2.length := List.length_map ..
        have hln : ((stW N M l).2.map fun v => rowP v.1).length = (stW N M l).2.length := List.length_map ..
        rw [hlt] at OT ⊢
        rw [hln] at ON ⊢
        have HPl1 := Lib.hid (HPl.out l)
        have HIn1 := Lib.hid (HIn.out l)
        have HBest : Hid (∀ k, k ≤ (stW N M l).2.length → (bsL E F (stW N M l).2 k).length ≤ 41) := fun k hk => bsL_len HWk1.out k hk
        have HNone : Hid (bsL E F (stW N M l).2 (stW N M l).2.length = [] → dfF E F N M (21 - l) l = dfF E F N M (21 - (l + 1)) (l + 1)) := fun h => dfF_next hl20 (best_none h)
        have HSome : Hid (bsL E F (stW N M l).2 (stW N M l).2.length ≠ [] → dfF E F N M (21 - l) l = some (bsL E F (stW N M l).2 (stW N M l).2.length)) := fun h => dfF_found hl20 (best_some h)
        have hsA : sAt N M (l + 1) = (stW N M l).1 := rfl
        have HSA : Hid ((stW N M l).1.map rowP = (sAt N M l).map rowP ++ (stW N M l).2.map fun v => rowP v.1) := by
          unfold Hid
          rw [stW_sAt, List.map_append, List.map_map]; rfl
        have HS1 := Lib.hid hsA
        clear hsA
        have HLv : Hid ((stW N M (l + 1)).2 = (lvW N M (stW N M l).1 (stW N M l).2 (stW N M l).2.length).2) := rfl
        have HMem : Hid (∀ k m w p, p ∈ (addW N M (lvW N M (stW N M l).1 (stW N M l).2 k) w m).1 ↔ p ∈ (stW N M l).1 ∨ p ∈ (addW N M (lvW N M (stW N M l).1 (stW N M l).2 k) w m).2.map Prod.fst) := fun k m w p => inW_mem l k m w p
        clear hlt hln
        generalize hS1 : (stW N M l).1 = S1 at *
        generalize hlv : (stW N M l).2 = lv at *
        generalize hm : lv.length = m at *
        have HM := Lib.hid hm
        have HWk2 : Hid (∀ v, v ∈ lv → v.2.length = 2 * l) := by rw [← hlv]; exact HWk.out l
        clear hS1 hlv hm
        generalize hns : ((sAt N M l).map rowP).length = ns at *
        have HNS := Lib.hid hns
        have hns2 : ns ≤ 1048576 := by
          have h := congrArg List.length HSA.out
          rw [List.length_map, List.length_append, hns] at h
          have := hBd.1
          omega
        clear hns
        obtain ⟨wo, hwo⟩ : ∃ wo, wo = wr := ⟨_, rfl⟩
        subst hwo
        go_wp2
        go_loopw [12, 13] (fun vb i wr => Hid (∃ (k : Nat) (ab : Option Addr) (cb : Nat), k ≤ m ∧ i = .int .i64 k ∧ vb = .slice ab (bsL E F lv k).length cb ∧ IntsAt wr ab (bsL E F lv k) ∧ Ext wo wr)) (fun _ i _ => m - (intOf i).toNat)
        case atStart => exact Lib.hid ⟨0, _, _, Nat.zero_le _, rfl, rfl, ⟨0, 0, fun h => absurd h (by simp [bsL]), fun i hi => absurd hi (by simp [bsL])⟩, by (repeat (first | exact Ext.refl _ | assumption | refine Ext.alloc ?_ _ | refine Ext.drewN ?_ _ | refine Ext.drew ?_))⟩
        case round =>
          obtain ⟨k, ab, cb, hk, rfl, rfl, hib, hx2⟩ := hrel.out
          have IB := Lib.hid hib
          have HX2 := Lib.hid hx2
          clear hrel hib hx2
          have hbl := HBest.out k hk
          by_cases hkm : k < m
          · have hki : (k : Int) < (m : Int) := by omega
            have hkl : k < lv.length := by rw [HM.out]; exact hkm
            obtain ⟨gt, rfl, -, hgt, -, hrt⟩ := OT.out.row (by rw [List.length_map]; omega)
            obtain ⟨ai, ci0, q1, q2, q3⟩ := hrt k (by rw [List.length_map]; exact hkl)
            rw [rowI_mapW (f := fun v => v.2) hkl] at q1 q2 q3
            obtain ⟨g, rfl, -, hg, -, hrn⟩ := ON.out.row (by rw [List.length_map]; omega)
            obtain ⟨an', ci, s1, s2, s3⟩ := hrn k (by rw [List.length_map]; exact hkl)
            rw [rowI_mapW (f := fun v => rowP v.1) hkl] at s1 s2 s3
            obtain ⟨gr, og, rfl, t0, t1⟩ := s3.two
            have hpl := HPl1.out k hkm
            have hwl := HWk2.out _ (atW_mem hkl)
            obtain ⟨⟨e0, e1⟩, f0, f1⟩ := HBx.out wo HX.out
            have HV : Hid (HeldV w1.heap.size w2.heap.size g k gr og (.slice a1 nE c1) (.slice a2 nN c2) (.slice b1 nF d1) (.slice b2 nM d2) (.slice (some ⟨gr, og, none⟩) 2 ci) (.int .i64 ((atW lv k).1.1 : Nat)) (.int .i64 ((atW lv k).1.2 : Nat)) wo) := ⟨⟨⟨e0, e1⟩, f0, f1⟩, s1, t0, t1⟩
            have Q1 := Lib.hid q1
            have Q3 := Lib.hid q3
            have hLS : Hid (bsL E F lv (k + 1) = bsA E F (atW lv k) (bsL E F lv k) 4) := rfl
            clear hrt hrn q1 q3 s1 s2 s3 t0 t1 e0 e1 f0 f1
            generalize hbb : bsL E F lv k = b0 at *
            generalize hww : atW lv k = wk0 at *
            clear hbb hww
            obtain ⟨⟨p, tr⟩, hwk⟩ : ∃ q : (Nat × Nat) × List Int, q = wk0 := ⟨_, rfl⟩
            subst hwk
            simp only at hpl hwl HV Q1 Q3
            have hwl2 : tr.length ≤ 40 := by omega
            clear hwl
            have hbA : Hid (∀ j, (bsA E F (p, tr) b0 j).length ≤ 41) := fun j => bsA_len hbl (by show tr.length + 1 ≤ 41; omega) j
            obtain ⟨wk1, hwk1⟩ : ∃ wo, wo = wr := ⟨_, rfl⟩
            subst hwk1
            go_wp2
            go_loopw [12, 14] (fun vb i wr => Hid (∃ (j : Nat) (t : Int) (ab : Option Addr) (cb : Nat), j ≤ 4 ∧ t = 3 - (j : Int) ∧ i = .int .i64 t ∧ vb = .slice ab (bsA E F (p, tr) b0 j).length cb ∧ IntsAt wr ab (bsA E F (p, tr) b0 j) ∧ Ext wk1 wr)) (fun _ i _ => (intOf i + 1).toNat)
            case atStart => exact Lib.hid ⟨0, 3, ab, cb, by omega, by omega, rfl, rfl, IB.out, by (repeat (first | exact Ext.refl _ | assumption | refine Ext.alloc ?_ _ | refine Ext.drewN ?_ _ | refine Ext.drew ?_))⟩
            case round =>
              obtain ⟨j, t, ab2, cb2, hj, ht, rfl, rfl, hib, hx3⟩ := hrel.out
              have IB2 := Lib.hid hib
              have HX3 := Lib.hid hx3
              clear hrel hib hx3
              by_cases hj4 : j < 4
              · obtain ⟨x, hxt⟩ : ∃ x : Nat, t = (x : Int) := ⟨3 - j, by omega⟩
                subst hxt
                have hxj : x = 3 - j := by omega
                have HXJ := Lib.hid hxj
                have hx0 : (0 : Int) ≤ (x : Int) := by omega
                have hx4 : x < 4 := by omega
                clear ht hxj
                have XO := Lib.hid (HX2.out.trans HX3.out)
                have q1w : wr.cell? ⟨gt, k, none⟩ = some (.slice ai tr.length ci0) := XO.out.cell' Q1.out hgt
                have hgtw := Nat.lt_of_lt_of_le hgt XO.out.size
                have Q3w := Lib.hid (Q3.out.ext XO.out)
                have HCo := Lib.hid (HV.out.more XO.out)
                have XWr := Lib.hid (HX.out.trans XO.out)
                have hbAj := hbA.out j
                have hSt : Hid (bsA E F (p, tr) b0 (j + 1) = if (apN E F p).testBit x = true ∧ (bsA E F (p, tr) b0 j = [] ∨ ltL (tr ++ [(x : Int)]) (bsA E F (p, tr) b0 j) = true) then tr ++ [(x : Int)] else bsA E F (p, tr) b0 j) := by
                  rw [HXJ.out]; rfl
                generalize hb2 : bsA E F (p, tr) b0 j = bj at *
                clear hb2
                have EA : Hid (∀ w', Ext wr w' → Calls Tryz.prog 62 #[autV a1 nE c1 a2 nN c2, .int .i64 (p.1 : Nat)] w' fun r w'' => r = .returned (.int .i64 (img E p.1 : Nat)) ∧ Ext w' w'') := fun w' y => TX.out w' a1 c1 a2 c2 p.1 (RA1.out.ext (X2W.out.trans (XWr.out.trans y))) hpl.1
                have EB : Hid (∀ w', Ext wr w' → Calls Tryz.prog 62 #[autV b1 nF d1 b2 nM d2, .int .i64 (p.2 : Nat)] w' fun r w'' => r = .returned (.int .i64 (img F p.2 : Nat)) ∧ Ext w' w'') := fun w' y => TY.out w' b1 d1 b2 d2 p.2 (RB1.out.ext (X2W.out.trans (XWr.out.trans y))) hpl.2
                have BA : Hid (∀ w', Calls Tryz.prog 107 #[.int .i64 (img E p.1 : Nat), .int .i64 (x : Nat)] w' fun r w'' => r = .returned (.int .i64 (((img E p.1).testBit x).toNat : Nat)) ∧ w' = w'') := fun w' => l1Bit_c _ x w' (by have := hIA.out p.1; omega) (by omega)
                have BB : Hid (∀ w', Calls Tryz.prog 107 #[.int .i64 (img F p.2 : Nat), .int .i64 (x : Nat)] w' fun r w'' => r = .returned (.int .i64 (((img F p.2).testBit x).toNat : Nat)) ∧ w' = w'') := fun w' => l1Bit_c _ x w' (by have := hIB.out p.2; omega) (by omega)
                have hap := apN_bit (E := E) (F := F) (p := p) (a := x)
                generalize (img E p.1).testBit x = u at *
                generalize (img F p.2).testBit x = v at *
                generalize img E p.1 = ip at *
                generalize img F p.2 = iq at *
                generalize htl : tr.length = nt at *
                have HTL := Lib.hid htl
                clear htl
                go_wp2_with (at_builtin; (refine any_append_ints (by rfl) _ _ _ rfl wr.heap.size 3 Tryz.underlying23 infoInt (.slice (some ⟨wr.heap.size, 0, none⟩) 0 0) [] rfl (by first | exact OwnI.empty _ _ | exact (OwnI.empty _ _).ext (by (repeat (first | exact Ext.refl _ | assumption | refine Ext.alloc ?_ _ | refine Ext.drewN ?_ _ | refine Ext.drew ?_)))) ai ci0 tr (by rw [HTL.out]; rfl) (Q3w.out.1.ext (by (repeat (first | exact Ext.refl _ | assumption | refine Ext.alloc ?_ _ | refine Ext.drewN ?_ _ | refine Ext.drew ?_)))) (by rw [HTL.out]; first | (simp; done) | (simp; omega)) (by first | omega | (simp; done) | (simp; omega)) ?_))
                intro v3 w3 o3 g3
                have X3 := Lib.hid (OwnI.grown (w0 := wr) (by first | exact OwnI.empty _ _ | exact (OwnI.empty _ _).ext (by (repeat (first | exact Ext.refl _ | assumption | refine Ext.alloc ?_ _ | refine Ext.drewN ?_ _ | refine Ext.drew ?_)))) (by (repeat (first | exact Ext.refl _ | assumption | refine Ext.alloc ?_ _ | refine Ext.drewN ?_ _ | refine Ext.drew ?_))) g3)
                obtain ⟨a3, c3, hv3, -⟩ := o3.shape
                have O3 := Lib.hid o3
                rw [hv3] at O3 ⊢
                rw [HTL.out] at O3 ⊢
                have hz3 := X3.out.size
                clear o3 g3 hv3
                go_wp2_with (at_builtin; refine any_append_ints (by rfl) _ _ _ rfl wr.heap.size 3 Tryz.underlying23 infoInt (.slice a3 nt c3) tr rfl (O3.out.ext (by (repeat (first | exact Ext.refl _ | assumption | refine Ext.alloc ?_ _ | refine Ext.drewN ?_ _ | refine Ext.drew ?_)))) _ _ [(x : Int)] rfl ((OwnI.lit1 _ _ _ _ (Nat.le_refl _)).ints) (by rw [HTL.out]; first | (simp; done) | (simp; omega)) (by first | omega | (simp; omega)) ?_)
                intro v4 w4 o4 g4
                have X4 := Lib.hid (OwnI.grown (w0 := wr) (O3.out.ext (by (repeat (first | exact Ext.refl _ | assumption | refine Ext.alloc ?_ _ | refine Ext.drewN ?_ _ | refine Ext.drew ?_)))) (X3.out.trans (by (repeat (first | exact Ext.refl _ | assumption | refine Ext.alloc ?_ _ | refine Ext.drewN ?_ _ | refine Ext.drew ?_)))) g4)
                obtain ⟨a4, c4, hv4, i4⟩ := o4.shape
                have hl4 : (tr ++ [(x : Int)]).length = nt + 1 := by rw [List.length_append, HTL.out]; rfl
                rw [hl4] at hv4
                subst hv4
                have I4 := Lib.hid i4
                have HL4 := Lib.hid hl4
                have HC := Lib.hid (HCo.out.more X4.out)
                clear o4 g4 i4 hl4 O3
                obtain ⟨wq, hwq⟩ : ∃ wq, wq = wr := ⟨_, rfl⟩
                subst hwq
                obtain ⟨wr, hwr⟩ : ∃ wr, wr = w4 := ⟨_, rfl⟩
                subst hwr
                have EA0 := EA
                have EB0 := EB
                replace EA : Hid (∀ w', Ext wr w' → Calls Tryz.prog 62 #[autV a1 nE c1 a2 nN c2, .int .i64 (p.1 : Nat)] w' fun r w'' => r = .returned (.int .i64 (ip : Nat)) ∧ Ext w' w'') := fun w' y => EA0.out w' (X4.out.trans y)
                replace EB : Hid (∀ w', Ext wr w' → Calls Tryz.prog 62 #[autV b1 nF d1 b2 nM d2, .int .i64 (p.2 : Nat)] w' fun r w'' => r = .returned (.int .i64 (iq : Nat)) ∧ Ext w' w'') := fun w' y => EB0.out w' (X4.out.trans y)
                clear EA0 EB0
                have HAp := Lib.hid hap
                clear hap
                have hbl3 := hbAj
                by_cases huv : u = v
                · have hS2 : Hid (bsA E F (p, tr) b0 (j + 1) = bj) := hSt.out.trans (if_neg (fun h => HAp.out.1 h.1 huv))
                  have hq1 : (((u.toNat : Nat) : Int) != ((v.toNat : Nat) : Int)) = false := by rw [huv]; simp
                  have hq2 : ((u.toNat : Nat) : Int) = ((v.toNat : Nat) : Int) := by rw [huv]
                  clear huv hSt HAp
                  generalize u.toNat = un at *
                  generalize v.toNat = vn at *
                  go_wp2
                  have K0a1 : HeldW w1.heap.size w2.heap.size g k gr og (.slice a1 nE c1) (.slice a2 nN c2) (.slice b1 nF d1) (.slice b2 nM d2) (.slice (some ⟨gr, og, none⟩) 2 ci) (.int .i64 (p.1 : Nat)) (.int .i64 (p.2 : Nat)) wr wr.drew := ⟨HC.out.more (by (repeat (first | exact Ext.refl _ | assumption | refine Ext.alloc ?_ _ | refine Ext.drewN ?_ _ | refine Ext.drew ?_))), by (repeat (first | exact Ext.refl _ | assumption | refine Ext.alloc ?_ _ | refine Ext.drewN ?_ _ | refine Ext.drew ?_))⟩
                  refine wp_region_held_drew (S := HeldW w1.heap.size w2.heap.size g k gr og (.slice a1 nE c1) (.slice a2 nN c2) (.slice b1 nF d1) (.slice b2 nM d2) (.slice (some ⟨gr, og, none⟩) 2 ci) (.int .i64 (p.1 : Nat)) (.int .i64 (p.2 : Nat)) wr) (by kernel_rfl) K0a1 (fun hHeld => ?_)
                  (refine wpAnyH_take (i := 0) (v := ?v0a1) (by simp only [List.getElem?_toArray, List.getElem?_cons_zero]; rfl) (by kernel_rfl) (by kernel_rfl) (by kernel_rfl) (by exact fun _ _ _ h => h) (Or.inl ⟨by rfl, ?y0a1⟩) (by assumption) ?r0a1)
                  case y0a1 =>
                    intro w hSw
                    obtain ⟨⟨⟨⟨hs0, hs1⟩, hs2, hs3⟩, hs4, hs5, hs6⟩, -⟩ := hSw
                    go_simp
                    all_goals (with_reducible rfl)
                  (try go_frame)
                  (refine wpAnyH_take (i := 1) (v := ?v1a1) (by simp only [List.getElem?_toArray, List.getElem?_cons_succ, List.getElem?_cons_zero]; rfl) (by kernel_rfl) (by kernel_rfl) (by kernel_rfl) (by exact fun _ _ _ h => h) (Or.inl ⟨by rfl, ?y1a1⟩) (by assumption) ?r1a1)
                  case y1a1 =>
                    intro w hSw
                    obtain ⟨⟨⟨⟨hs0, hs1⟩, hs2, hs3⟩, hs4, hs5, hs6⟩, -⟩ := hSw
                    go_simp
                    all_goals (with_reducible rfl)
                  (try go_frame)
                  (refine wpAnyH_take (i := 2) (v := ?v2a1) (by simp only [List.getElem?_toArray, List.getElem?_cons_succ, List.getElem?_cons_zero]; rfl) (by kernel_rfl) (by kernel_rfl) (by kernel_rfl) (by exact fun _ _ _ h => h) (Or.inl ⟨by rfl, ?y2a1⟩) (by assumption) ?r2a1)
                  case y2a1 =>
                    intro w hSw
                    obtain ⟨⟨⟨⟨hs0, hs1⟩, hs2, hs3⟩, hs4, hs5, hs6⟩, -⟩ := hSw
                    go_simp
                    all_goals (with_reducible rfl)
                  (try go_frame)
                  (refine wpAnyH_take (i := 3) (v := ?v3a1) (by simp only [List.getElem?_toArray, List.getElem?_cons_succ, List.getElem?_cons_zero]; rfl) (by kernel_rfl) (by kernel_rfl) (by kernel_rfl) (by exact fun _ _ _ h => h) (Or.inl ⟨by rfl, ?y3a1⟩) (by assumption) ?r3a1)
                  case y3a1 =>
                    intro w hSw
                    obtain ⟨⟨⟨⟨hs0, hs1⟩, hs2, hs3⟩, hs4, hs5, hs6⟩, -⟩ := hSw
                    go_simp
                    all_goals (with_reducible rfl)
                  (try go_frame)
                  (refine wpAnyH_take (i := 4) (v := ?v4a1) (by simp only [List.getElem?_toArray, List.getElem?_cons_succ, List.getElem?_cons_zero]; rfl) (by kernel_rfl) (by kernel_rfl) (by kernel_rfl) (by exact fun _ _ _ h => h) (Or.inl ⟨by rfl, ?y4a1⟩) (by assumption) ?r4a1)
                  case y4a1 =>
                    intro w hSw
                    obtain ⟨⟨⟨⟨hs0, hs1⟩, hs2, hs3⟩, hs4, hs5, hs6⟩, -⟩ := hSw
                    go_simp
                    all_goals (with_reducible rfl)
                  (try go_frame)
                  (refine wpAnyH_take (i := 5) (v := ?v5a1) (by simp only [List.getElem?_toArray, List.getElem?_cons_succ, List.getElem?_cons_zero]; rfl) (by kernel_rfl) (by kernel_rfl) (by kernel_rfl) (by exact fun _ _ _ h => h) (Or.inl ⟨by rfl, ?y5a1⟩) (by assumption) ?r5a1)
                  case y5a1 =>
                    intro w hSw
                    obtain ⟨⟨⟨⟨hs0, hs1⟩, hs2, hs3⟩, hs4, hs5, hs6⟩, -⟩ := hSw
                    go_simp
                    all_goals (with_reducible rfl)
                  (try go_frame)
                  (refine wpAnyH_take (i := 6) (v := ?v6a1) (by simp only [List.getElem?_toArray, List.getElem?_cons_succ, List.getElem?_cons_zero]; rfl) (by kernel_rfl) (by kernel_rfl) (by kernel_rfl) (by exact fun _ _ _ h => h) (Or.inl ⟨by rfl, ?y6a1⟩) (by assumption) ?r6a1)
                  case y6a1 =>
                    intro w hSw
                    obtain ⟨⟨⟨⟨hs0, hs1⟩, hs2, hs3⟩, hs4, hs5, hs6⟩, -⟩ := hSw
                    go_simp
                    all_goals (with_reducible rfl)
                  (try go_frame)
                  (refine wpAnyH_take (i := 8) (v := ?v8a1) (by simp only [List.getElem?_toArray, List.getElem?_cons_succ, List.getElem?_cons_zero]; rfl) (by kernel_rfl) (by kernel_rfl) (by kernel_rfl) (by exact fun _ _ _ h => h) (Or.inl ⟨by rfl, ?y8a1⟩) (by assumption) ?r8a1)
                  case y8a1 =>
                    intro w hSw
                    obtain ⟨⟨⟨⟨hs0, hs1⟩, hs2, hs3⟩, hs4, hs5, hs6⟩, -⟩ := hSw
                    go_simp
                    all_goals (with_reducible rfl)
                  (try go_frame)
                  (refine wpAnyH_take (i := 10) (v := ?v10a1) (by simp only [List.getElem?_toArray, List.getElem?_cons_succ, List.getElem?_cons_zero]; rfl) (by kernel_rfl) (by kernel_rfl) (by kernel_rfl) (by exact fun _ _ _ h => h) (Or.inl ⟨by rfl, ?y10a1⟩) (by assumption) ?r10a1)
                  case y10a1 =>
                    intro w hSw
                    obtain ⟨⟨⟨⟨hs0, hs1⟩, hs2, hs3⟩, hs4, hs5, hs6⟩, -⟩ := hSw
                    go_simp
                    all_goals (with_reducible rfl)
                  (try go_frame)
                  (refine wpAnyH_take (i := 11) (v := ?v11a1) (by simp only [List.getElem?_toArray, List.getElem?_cons_succ, List.getElem?_cons_zero]; rfl) (by kernel_rfl) (by kernel_rfl) (by kernel_rfl) (by exact fun _ _ _ h => h) (Or.inl ⟨by rfl, ?y11a1⟩) (by assumption) ?r11a1)
                  case y11a1 =>
                    intro w hSw
                    obtain ⟨⟨⟨⟨hs0, hs1⟩, hs2, hs3⟩, hs4, hs5, hs6⟩, -⟩ := hSw
                    go_simp
                    all_goals (with_reducible rfl)
                  (try go_frame)
                  (refine wpAnyH_take (i := 12) (v := ?v12a1) (by simp only [List.getElem?_toArray, List.getElem?_cons_succ, List.getElem?_cons_zero]; rfl) (by kernel_rfl) (by kernel_rfl) (by kernel_rfl) (by exact fun _ _ _ h => h) (Or.inl ⟨by rfl, ?y12a1⟩) (by assumption) ?r12a1)
                  case y12a1 =>
                    intro w hSw
                    obtain ⟨⟨⟨⟨hs0, hs1⟩, hs2, hs3⟩, hs4, hs5, hs6⟩, -⟩ := hSw
                    go_simp
                    all_goals (with_reducible rfl)
                  (try go_frame)
                  (refine wpAnyH_take (i := 13) (v := ?v13a1) (by simp only [List.getElem?_toArray, List.getElem?_cons_succ, List.getElem?_cons_zero]; rfl) (by kernel_rfl) (by kernel_rfl) (by kernel_rfl) (by exact fun _ _ _ h => h) (Or.inl ⟨by rfl, ?y13a1⟩) (by assumption) ?r13a1)
                  case y13a1 =>
                    intro w hSw
                    obtain ⟨⟨⟨⟨hs0, hs1⟩, hs2, hs3⟩, hs4, hs5, hs6⟩, -⟩ := hSw
                    go_simp
                    all_goals (with_reducible rfl)
                  (try go_frame)
                  (refine wpAnyH_take (i := 14) (v := ?v14a1) (by simp only [List.getElem?_toArray, List.getElem?_cons_succ, List.getElem?_cons_zero]; rfl) (by kernel_rfl) (by kernel_rfl) (by kernel_rfl) (by exact fun _ _ _ h => h) (Or.inl ⟨by rfl, ?y14a1⟩) (by assumption) ?r14a1)
                  case y14a1 =>
                    intro w hSw
                    obtain ⟨⟨⟨⟨hs0, hs1⟩, hs2, hs3⟩, hs4, hs5, hs6⟩, -⟩ := hSw
                    go_simp
                    all_goals (with_reducible rfl)
                  (try go_frame)
                  (refine wpAnyH_take (i := 15) (v := ?v15a1) (by simp only [List.getElem?_toArray, List.getElem?_cons_succ, List.getElem?_cons_zero]; rfl) (by kernel_rfl) (by kernel_rfl) (by kernel_rfl) (by exact fun _ _ _ h => h) (Or.inl ⟨by rfl, ?y15a1⟩) (by assumption) ?r15a1)
                  case y15a1 =>
                    intro w hSw
                    obtain ⟨⟨⟨⟨hs0, hs1⟩, hs2, hs3⟩, hs4, hs5, hs6⟩, -⟩ := hSw
                    go_simp
                    all_goals (with_reducible rfl)
                  (try go_frame)
                  (refine wpAnyH_take (i := 16) (v := ?v16a1) (by simp only [List.getElem?_toArray, List.getElem?_cons_succ, List.getElem?_cons_zero]; rfl) (by kernel_rfl) (by kernel_rfl) (by kernel_rfl) (by exact fun _ _ _ h => h) (Or.inl ⟨by rfl, ?y16a1⟩) (by assumption) ?r16a1)
                  case y16a1 =>
                    intro w hSw
                    obtain ⟨⟨⟨⟨hs0, hs1⟩, hs2, hs3⟩, hs4, hs5, hs6⟩, -⟩ := hSw
                    go_simp
                    all_goals (with_reducible rfl)
                  (try go_frame)
                  (refine wpAnyH_take (i := 18) (v := ?v18a1) (by simp only [List.getElem?_toArray, List.getElem?_cons_succ, List.getElem?_cons_zero]; rfl) (by kernel_rfl) (by kernel_rfl) (by kernel_rfl) (by exact fun _ _ _ h => h) (Or.inl ⟨by rfl, ?y18a1⟩) (by assumption) ?r18a1)
                  case y18a1 =>
                    intro w hSw
                    obtain ⟨⟨⟨⟨hs0, hs1⟩, hs2, hs3⟩, hs4, hs5, hs6⟩, -⟩ := hSw
                    go_simp
                    all_goals (with_reducible rfl)
                  (try go_frame)
                  refine wpAnyH_ready (rs := [7]) (by kernel_rfl) (by simp) ?_
                  refine AllReadyH.cons (by simp only [List.getElem?_toArray, List.getElem?_cons_succ, List.getElem?_cons_zero]; rfl) (fun K hK => ?_) AllReadyH.nil
                  go_simp
                  (go_at_call 62; with_reducible refine (EA.out _ (And.right (show HeldW w1.heap.size w2.heap.size g k gr og (.slice a1 nE c1) (.slice a2 nN c2) (.slice b1 nF d1) (.slice b2 nM d2) (.slice (some ⟨gr, og, none⟩) 2 ci) (.int .i64 (p.1 : Nat)) (.int .i64 (p.2 : Nat)) wr _ by assumption))).mono ?_; rintro e wk ⟨rfl, yk⟩)
                  refine hK.out _ _ ?_ (fun hHeld => ?_)
                  · exact HeldW.more (by assumption) yk
                  clear hK K
                  (try go_frame)
                  refine wpAnyH_ready (rs := [9]) (by kernel_rfl) (by simp) ?_
                  refine AllReadyH.cons (by simp only [List.getElem?_toArray, List.getElem?_cons_succ, List.getElem?_cons_zero]; rfl) (fun K hK => ?_) AllReadyH.nil
                  go_simp
                  (go_at_call 107; with_reducible refine (BA.out _).mono ?_; rintro e wk ⟨rfl, rfl⟩)
                  refine hK.out _ _ ?_ (fun hHeld => ?_)
                  · assumption
                  clear hK K
                  (try go_frame)
                  refine wpAnyH_ready (rs := [17]) (by kernel_rfl) (by simp) ?_
                  refine AllReadyH.cons (by simp only [List.getElem?_toArray, List.getElem?_cons_succ, List.getElem?_cons_zero]; rfl) (fun K hK => ?_) AllReadyH.nil
                  go_simp
                  (go_at_call 62; with_reducible refine (EB.out _ (And.right (show HeldW w1.heap.size w2.heap.size g k gr og (.slice a1 nE c1) (.slice a2 nN c2) (.slice b1 nF d1) (.slice b2 nM d2) (.slice (some ⟨gr, og, none⟩) 2 ci) (.int .i64 (p.1 : Nat)) (.int .i64 (p.2 : Nat)) wr _ by assumption))).mono ?_; rintro e wk ⟨rfl, yk⟩)
                  refine hK.out _ _ ?_ (fun hHeld => ?_)
                  · exact HeldW.more (by assumption) yk
                  clear hK K
                  (try go_frame)
                  refine wpAnyH_ready (rs := [19]) (by kernel_rfl) (by simp) ?_
                  refine AllReadyH.cons (by simp only [List.getElem?_toArray, List.getElem?_cons_succ, List.getElem?_cons_zero]; rfl) (fun K hK => ?_) AllReadyH.nil
                  go_simp
                  (go_at_call 107; with_reducible refine (BB.out _).mono ?_; rintro e wk ⟨rfl, rfl⟩)
                  refine hK.out _ _ ?_ (fun hHeld => ?_)
                  · assumption
                  clear hK K
                  (try go_frame)
                  (refine wpAnyH_take (i := 20) (v := ?v20a1) (by simp only [List.getElem?_toArray, List.getElem?_cons_succ, List.getElem?_cons_zero]; rfl) (by kernel_rfl) (by kernel_rfl) (by kernel_rfl) (by exact fun _ _ _ h => h) (Or.inl ⟨by rfl, ?y20a1⟩) (by assumption) ?r20a1)
                  case y20a1 =>
                    intro w hSw
                    obtain ⟨⟨⟨⟨hs0, hs1⟩, hs2, hs3⟩, hs4, hs5, hs6⟩, -⟩ := hSw
                    go_simp
                    all_goals (with_reducible rfl)
                  (try go_frame)
                  (refine wpAnyH_take (i := 21) (v := ?v21a1) (by simp only [List.getElem?_toArray, List.getElem?_cons_succ, List.getElem?_cons_zero]; rfl) (by kernel_rfl) (by kernel_rfl) (by kernel_rfl) (by exact fun _ _ _ h => h) (Or.inl ⟨by rfl, ?y21a1⟩) (by assumption) ?r21a1)
                  case y21a1 =>
                    intro w hSw
                    obtain ⟨⟨⟨⟨hs0, hs1⟩, hs2, hs3⟩, hs4, hs5, hs6⟩, -⟩ := hSw
                    go_simp
                    all_goals (with_reducible rfl)
                  (try go_frame)
                  refine wpAnyH_done (by kernel_rfl) ?_ _
                  refine world_cut1 (w0 := wr) (And.right (show HeldW w1.heap.size w2.heap.size g k gr og (.slice a1 nE c1) (.slice a2 nN c2) (.slice b1 nF d1) (.slice b2 nM d2) (.slice (some ⟨gr, og, none⟩) 2 ci) (.int .i64 (p.1 : Nat)) (.int .i64 (p.2 : Nat)) wr _ by assumption)) ?_
                  intro w9 x9
                  have X9 := Lib.hid x9
                  clear x9
                  go_wp2
                  go_roundw
                  case rel => exact Lib.hid ⟨j + 1, (x : Int) - 1, ab2, cb2, by omega, by have := HXJ.out; omega, by go_num, by rw [hS2.out], by rw [hS2.out]; exact IB2.out.ext (X4.out.trans X9.out), HX3.out.trans (X4.out.trans X9.out)⟩
                  case measure => first | (simp [intOf]; done) | (simp [intOf]; omega)
                · have hq1 : (((u.toNat : Nat) : Int) != ((v.toNat : Nat) : Int)) = true := by revert huv; cases u <;> cases v <;> decide
                  have hq2 : ¬ (((u.toNat : Nat) : Int) = ((v.toNat : Nat) : Int)) := by revert huv; cases u <;> cases v <;> decide
                  have hap2 : Hid ((apN E F p).testBit x = true) := HAp.out.2 huv
                  have hCond : Hid (bsA E F (p, tr) b0 (j + 1) = if bj = [] ∨ ltL (tr ++ [(x : Int)]) bj = true then tr ++ [(x : Int)] else bj) := by
                    refine hSt.out.trans ?_
                    by_cases h : bj = [] ∨ ltL (tr ++ [(x : Int)]) bj = true
                    · rw [if_pos h, if_pos ⟨hap2.out, h⟩]
                    · rw [if_neg h, if_neg (fun e => h e.2)]
                  clear huv hSt HAp hap2
                  generalize u.toNat = un at *
                  generalize v.toNat = vn at *
                  go_wp2
                  have K0a2 : HeldW w1.heap.size w2.heap.size g k gr og (.slice a1 nE c1) (.slice a2 nN c2) (.slice b1 nF d1) (.slice b2 nM d2) (.slice (some ⟨gr, og, none⟩) 2 ci) (.int .i64 (p.1 : Nat)) (.int .i64 (p.2 : Nat)) wr wr.drew := ⟨HC.out.more (by (repeat (first | exact Ext.refl _ | assumption | refine Ext.alloc ?_ _ | refine Ext.drewN ?_ _ | refine Ext.drew ?_))), by (repeat (first | exact Ext.refl _ | assumption | refine Ext.alloc ?_ _ | refine Ext.drewN ?_ _ | refine Ext.drew ?_))⟩
                  refine wp_region_held_drew (S := HeldW w1.heap.size w2.heap.size g k gr og (.slice a1 nE c1) (.slice a2 nN c2) (.slice b1 nF d1) (.slice b2 nM d2) (.slice (some ⟨gr, og, none⟩) 2 ci) (.int .i64 (p.1 : Nat)) (.int .i64 (p.2 : Nat)) wr) (by kernel_rfl) K0a2 (fun hHeld => ?_)
                  (refine wpAnyH_take (i := 0) (v := ?v0a2) (by simp only [List.getElem?_toArray, List.getElem?_cons_zero]; rfl) (by kernel_rfl) (by kernel_rfl) (by kernel_rfl) (by exact fun _ _ _ h => h) (Or.inl ⟨by rfl, ?y0a2⟩) (by assumption) ?r0a2)
                  case y0a2 =>
                    intro w hSw
                    obtain ⟨⟨⟨⟨hs0, hs1⟩, hs2, hs3⟩, hs4, hs5, hs6⟩, -⟩ := hSw
                    go_simp
                    all_goals (with_reducible rfl)
                  (try go_frame)
                  (refine wpAnyH_take (i := 1) (v := ?v1a2) (by simp only [List.getElem?_toArray, List.getElem?_cons_succ, List.getElem?_cons_zero]; rfl) (by kernel_rfl) (by kernel_rfl) (by kernel_rfl) (by exact fun _ _ _ h => h) (Or.inl ⟨by rfl, ?y1a2⟩) (by assumption) ?r1a2)
                  case y1a2 =>
                    intro w hSw
                    obtain ⟨⟨⟨⟨hs0, hs1⟩, hs2, hs3⟩, hs4, hs5, hs6⟩, -⟩ := hSw
                    go_simp
                    all_goals (with_reducible rfl)
                  (try go_frame)
                  (refine wpAnyH_take (i := 2) (v := ?v2a2) (by simp only [List.getElem?_toArray, List.getElem?_cons_succ, List.getElem?_cons_zero]; rfl) (by kernel_rfl) (by kernel_rfl) (by kernel_rfl) (by exact fun _ _ _ h => h) (Or.inl ⟨by rfl, ?y2a2⟩) (by assumption) ?r2a2)
                  case y2a2 =>
                    intro w hSw
                    obtain ⟨⟨⟨⟨hs0, hs1⟩, hs2, hs3⟩, hs4, hs5, hs6⟩, -⟩ := hSw
                    go_simp
                    all_goals (with_reducible rfl)
                  (try go_frame)
                  (refine wpAnyH_take (i := 3) (v := ?v3a2) (by simp only [List.getElem?_toArray, List.getElem?_cons_succ, List.getElem?_cons_zero]; rfl) (by kernel_rfl) (by kernel_rfl) (by kernel_rfl) (by exact fun _ _ _ h => h) (Or.inl ⟨by rfl, ?y3a2⟩) (by assumption) ?r3a2)
                  case y3a2 =>
                    intro w hSw
                    obtain ⟨⟨⟨⟨hs0, hs1⟩, hs2, hs3⟩, hs4, hs5, hs6⟩, -⟩ := hSw
                    go_simp
                    all_goals (with_reducible rfl)
                  (try go_frame)
                  (refine wpAnyH_take (i := 4) (v := ?v4a2) (by simp only [List.getElem?_toArray, List.getElem?_cons_succ, List.getElem?_cons_zero]; rfl) (by kernel_rfl) (by kernel_rfl) (by kernel_rfl) (by exact fun _ _ _ h => h) (Or.inl ⟨by rfl, ?y4a2⟩) (by assumption) ?r4a2)
                  case y4a2 =>
                    intro w hSw
                    obtain ⟨⟨⟨⟨hs0, hs1⟩, hs2, hs3⟩, hs4, hs5, hs6⟩, -⟩ := hSw
                    go_simp
                    all_goals (with_reducible rfl)
                  (try go_frame)
                  (refine wpAnyH_take (i := 5) (v := ?v5a2) (by simp only [List.getElem?_toArray, List.getElem?_cons_succ, List.getElem?_cons_zero]; rfl) (by kernel_rfl) (by kernel_rfl) (by kernel_rfl) (by exact fun _ _ _ h => h) (Or.inl ⟨by rfl, ?y5a2⟩) (by assumption) ?r5a2)
                  case y5a2 =>
                    intro w hSw
                    obtain ⟨⟨⟨⟨hs0, hs1⟩, hs2, hs3⟩, hs4, hs5, hs6⟩, -⟩ := hSw
                    go_simp
                    all_goals (with_reducible rfl)
                  (try go_frame)
                  (refine wpAnyH_take (i := 6) (v := ?v6a2) (by simp only [List.getElem?_toArray, List.getElem?_cons_succ, List.getElem?_cons_zero]; rfl) (by kernel_rfl) (by kernel_rfl) (by kernel_rfl) (by exact fun _ _ _ h => h) (Or.inl ⟨by rfl, ?y6a2⟩) (by assumption) ?r6a2)
                  case y6a2 =>
                    intro w hSw
                    obtain ⟨⟨⟨⟨hs0, hs1⟩, hs2, hs3⟩, hs4, hs5, hs6⟩, -⟩ := hSw
                    go_simp
                    all_goals (with_reducible rfl)
                  (try go_frame)
                  (refine wpAnyH_take (i := 8) (v := ?v8a2) (by simp only [List.getElem?_toArray, List.getElem?_cons_succ, List.getElem?_cons_zero]; rfl) (by kernel_rfl) (by kernel_rfl) (by kernel_rfl) (by exact fun _ _ _ h => h) (Or.inl ⟨by rfl, ?y8a2⟩) (by assumption) ?r8a2)
                  case y8a2 =>
                    intro w hSw
                    obtain ⟨⟨⟨⟨hs0, hs1⟩, hs2, hs3⟩, hs4, hs5, hs6⟩, -⟩ := hSw
                    go_simp
                    all_goals (with_reducible rfl)
                  (try go_frame)
                  (refine wpAnyH_take (i := 10) (v := ?v10a2) (by simp only [List.getElem?_toArray, List.getElem?_cons_succ, List.getElem?_cons_zero]; rfl) (by kernel_rfl) (by kernel_rfl) (by kernel_rfl) (by exact fun _ _ _ h => h) (Or.inl ⟨by rfl, ?y10a2⟩) (by assumption) ?r10a2)
                  case y10a2 =>
                    intro w hSw
                    obtain ⟨⟨⟨⟨hs0, hs1⟩, hs2, hs3⟩, hs4, hs5, hs6⟩, -⟩ := hSw
                    go_simp
                    all_goals (with_reducible rfl)
                  (try go_frame)
                  (refine wpAnyH_take (i := 11) (v := ?v11a2) (by simp only [List.getElem?_toArray, List.getElem?_cons_succ, List.getElem?_cons_zero]; rfl) (by kernel_rfl) (by kernel_rfl) (by kernel_rfl) (by exact fun _ _ _ h => h) (Or.inl ⟨by rfl, ?y11a2⟩) (by assumption) ?r11a2)
                  case y11a2 =>
                    intro w hSw
                    obtain ⟨⟨⟨⟨hs0, hs1⟩, hs2, hs3⟩, hs4, hs5, hs6⟩, -⟩ := hSw
                    go_simp
                    all_goals (with_reducible rfl)
                  (try go_frame)
                  (refine wpAnyH_take (i := 12) (v := ?v12a2) (by simp only [List.getElem?_toArray, List.getElem?_cons_succ, List.getElem?_cons_zero]; rfl) (by kernel_rfl) (by kernel_rfl) (by kernel_rfl) (by exact fun _ _ _ h => h) (Or.inl ⟨by rfl, ?y12a2⟩) (by assumption) ?r12a2)
                  case y12a2 =>
                    intro w hSw
                    obtain ⟨⟨⟨⟨hs0, hs1⟩, hs2, hs3⟩, hs4, hs5, hs6⟩, -⟩ := hSw
                    go_simp
                    all_goals (with_reducible rfl)
                  (try go_frame)
                  (refine wpAnyH_take (i := 13) (v := ?v13a2) (by simp only [List.getElem?_toArray, List.getElem?_cons_succ, List.getElem?_cons_zero]; rfl) (by kernel_rfl) (by kernel_rfl) (by kernel_rfl) (by exact fun _ _ _ h => h) (Or.inl ⟨by rfl, ?y13a2⟩) (by assumption) ?r13a2)
                  case y13a2 =>
                    intro w hSw
                    obtain ⟨⟨⟨⟨hs0, hs1⟩, hs2, hs3⟩, hs4, hs5, hs6⟩, -⟩ := hSw
                    go_simp
                    all_goals (with_reducible rfl)
                  (try go_frame)
                  (refine wpAnyH_take (i := 14) (v := ?v14a2) (by simp only [List.getElem?_toArray, List.getElem?_cons_succ, List.getElem?_cons_zero]; rfl) (by kernel_rfl) (by kernel_rfl) (by kernel_rfl) (by exact fun _ _ _ h => h) (Or.inl ⟨by rfl, ?y14a2⟩) (by assumption) ?r14a2)
                  case y14a2 =>
                    intro w hSw
                    obtain ⟨⟨⟨⟨hs0, hs1⟩, hs2, hs3⟩, hs4, hs5, hs6⟩, -⟩ := hSw
                    go_simp
                    all_goals (with_reducible rfl)
                  (try go_frame)
                  (refine wpAnyH_take (i := 15) (v := ?v15a2) (by simp only [List.getElem?_toArray, List.getElem?_cons_succ, List.getElem?_cons_zero]; rfl) (by kernel_rfl) (by kernel_rfl) (by kernel_rfl) (by exact fun _ _ _ h => h) (Or.inl ⟨by rfl, ?y15a2⟩) (by assumption) ?r15a2)
                  case y15a2 =>
                    intro w hSw
                    obtain ⟨⟨⟨⟨hs0, hs1⟩, hs2, hs3⟩, hs4, hs5, hs6⟩, -⟩ := hSw
                    go_simp
                    all_goals (with_reducible rfl)
                  (try go_frame)
                  (refine wpAnyH_take (i := 16) (v := ?v16a2) (by simp only [List.getElem?_toArray, List.getElem?_cons_succ, List.getElem?_cons_zero]; rfl) (by kernel_rfl) (by kernel_rfl) (by kernel_rfl) (by exact fun _ _ _ h => h) (Or.inl ⟨by rfl, ?y16a2⟩) (by assumption) ?r16a2)
                  case y16a2 =>
                    intro w hSw
                    obtain ⟨⟨⟨⟨hs0, hs1⟩, hs2, hs3⟩, hs4, hs5, hs6⟩, -⟩ := hSw
                    go_simp
                    all_goals (with_reducible rfl)
                  (try go_frame)
                  (refine wpAnyH_take (i := 18) (v := ?v18a2) (by simp only [List.getElem?_toArray, List.getElem?_cons_succ, List.getElem?_cons_zero]; rfl) (by kernel_rfl) (by kernel_rfl) (by kernel_rfl) (by exact fun _ _ _ h => h) (Or.inl ⟨by rfl, ?y18a2⟩) (by assumption) ?r18a2)
                  case y18a2 =>
                    intro w hSw
                    obtain ⟨⟨⟨⟨hs0, hs1⟩, hs2, hs3⟩, hs4, hs5, hs6⟩, -⟩ := hSw
                    go_simp
                    all_goals (with_reducible rfl)
                  (try go_frame)
                  refine wpAnyH_ready (rs := [7]) (by kernel_rfl) (by simp) ?_
                  refine AllReadyH.cons (by simp only [List.getElem?_toArray, List.getElem?_cons_succ, List.getElem?_cons_zero]; rfl) (fun K hK => ?_) AllReadyH.nil
                  go_simp
                  (go_at_call 62; with_reducible refine (EA.out _ (And.right (show HeldW w1.heap.size w2.heap.size g k gr og (.slice a1 nE c1) (.slice a2 nN c2) (.slice b1 nF d1) (.slice b2 nM d2) (.slice (some ⟨gr, og, none⟩) 2 ci) (.int .i64 (p.1 : Nat)) (.int .i64 (p.2 : Nat)) wr _ by assumption))).mono ?_; rintro e wk ⟨rfl, yk⟩)
                  refine hK.out _ _ ?_ (fun hHeld => ?_)
                  · exact HeldW.more (by assumption) yk
                  clear hK K
                  (try go_frame)
                  refine wpAnyH_ready (rs := [9]) (by kernel_rfl) (by simp) ?_
                  refine AllReadyH.cons (by simp only [List.getElem?_toArray, List.getElem?_cons_succ, List.getElem?_cons_zero]; rfl) (fun K hK => ?_) AllReadyH.nil
                  go_simp
                  (go_at_call 107; with_reducible refine (BA.out _).mono ?_; rintro e wk ⟨rfl, rfl⟩)
                  refine hK.out _ _ ?_ (fun hHeld => ?_)
                  · assumption
                  clear hK K
                  (try go_frame)
                  refine wpAnyH_ready (rs := [17]) (by kernel_rfl) (by simp) ?_
                  refine AllReadyH.cons (by simp only [List.getElem?_toArray, List.getElem?_cons_succ, List.getElem?_cons_zero]; rfl) (fun K hK => ?_) AllReadyH.nil
                  go_simp
                  (go_at_call 62; with_reducible refine (EB.out _ (And.right (show HeldW w1.heap.size w2.heap.size g k gr og (.slice a1 nE c1) (.slice a2 nN c2) (.slice b1 nF d1) (.slice b2 nM d2) (.slice (some ⟨gr, og, none⟩) 2 ci) (.int .i64 (p.1 : Nat)) (.int .i64 (p.2 : Nat)) wr _ by assumption))).mono ?_; rintro e wk ⟨rfl, yk⟩)
                  refine hK.out _ _ ?_ (fun hHeld => ?_)
                  · exact HeldW.more (by assumption) yk
                  clear hK K
                  (try go_frame)
                  refine wpAnyH_ready (rs := [19]) (by kernel_rfl) (by simp) ?_
                  refine AllReadyH.cons (by simp only [List.getElem?_toArray, List.getElem?_cons_succ, List.getElem?_cons_zero]; rfl) (fun K hK => ?_) AllReadyH.nil
                  go_simp
                  (go_at_call 107; with_reducible refine (BB.out _).mono ?_; rintro e wk ⟨rfl, rfl⟩)
                  refine hK.out _ _ ?_ (fun hHeld => ?_)
                  · assumption
                  clear hK K
                  (try go_frame)
                  (refine wpAnyH_take (i := 20) (v := ?v20a2) (by simp only [List.getElem?_toArray, List.getElem?_cons_succ, List.getElem?_cons_zero]; rfl) (by kernel_rfl) (by kernel_rfl) (by kernel_rfl) (by exact fun _ _ _ h => h) (Or.inl ⟨by rfl, ?y20a2⟩) (by assumption) ?r20a2)
                  case y20a2 =>
                    intro w hSw
                    obtain ⟨⟨⟨⟨hs0, hs1⟩, hs2, hs3⟩, hs4, hs5, hs6⟩, -⟩ := hSw
                    go_simp
                    all_goals (with_reducible rfl)
                  (try go_frame)
                  (refine wpAnyH_take (i := 21) (v := ?v21a2) (by simp only [List.getElem?_toArray, List.getElem?_cons_succ, List.getElem?_cons_zero]; rfl) (by kernel_rfl) (by kernel_rfl) (by kernel_rfl) (by exact fun _ _ _ h => h) (Or.inl ⟨by rfl, ?y21a2⟩) (by assumption) ?r21a2)
                  case y21a2 =>
                    intro w hSw
                    obtain ⟨⟨⟨⟨hs0, hs1⟩, hs2, hs3⟩, hs4, hs5, hs6⟩, -⟩ := hSw
                    go_simp
                    all_goals (with_reducible rfl)
                  (try go_frame)
                  refine wpAnyH_done (by kernel_rfl) ?_ _
                  refine world_cut1 (w0 := wr) (And.right (show HeldW w1.heap.size w2.heap.size g k gr og (.slice a1 nE c1) (.slice a2 nN c2) (.slice b1 nF d1) (.slice b2 nM d2) (.slice (some ⟨gr, og, none⟩) 2 ci) (.int .i64 (p.1 : Nat)) (.int .i64 (p.2 : Nat)) wr _ by assumption)) ?_
                  intro w9 x9
                  have X9 := Lib.hid x9
                  clear x9
                  by_cases hbe : bj = []
                  · have hS2 : Hid (bsA E F (p, tr) b0 (j + 1) = tr ++ [(x : Int)]) := hCond.out.trans (if_pos (.inl hbe))
                    have hb0 : bj.length = 0 := by rw [hbe]; rfl
                    rw [hb0]
                    clear hbe hCond hb0
                    go_wp2
                    go_roundw
                    case rel => exact Lib.hid ⟨j + 1, (x : Int) - 1, a4, c4, by omega, by have := HXJ.out; omega, by go_num, by rw [hS2.out, HL4.out], by rw [hS2.out]; exact I4.out.ext X9.out, HX3.out.trans (X4.out.trans X9.out)⟩
                    case measure => first | (simp [intOf]; done) | (simp [intOf]; omega)
                  · have hbn : 0 < bj.length := by
                      rcases Nat.eq_zero_or_pos bj.length with h | h
                      · exact absurd (List.eq_nil_of_length_eq_zero h) hbe
                      · exact h
                    have hbn1 : ((bj.length : Int) == 0) = false := by simp; omega
                    have hbn2 : ¬ ((bj.length : Int) = 0) := by omega
                    have CL : Hid (∀ w', Ext w9 w' → Calls Tryz.prog 108 #[.slice a4 (nt + 1) c4, .slice ab2 bj.length cb2] w' fun r w'' => r = .returned (.bool (ltL (tr ++ [(x : Int)]) bj)) ∧ Ext w' w'') := fun w' y => by
                      rw [← HL4.out]
                      exact l1Less_c a4 ab2 c4 cb2 (tr ++ [(x : Int)]) bj w' (I4.out.ext (X9.out.trans y)) (IB2.out.ext (X4.out.trans (X9.out.trans y))) (by rw [HL4.out]; omega) (by omega)
                    cases hlt : ltL (tr ++ [(x : Int)]) bj
                    · rw [hlt] at CL
                      have hS2 : Hid (bsA E F (p, tr) b0 (j + 1) = bj) := hCond.out.trans (if_neg (fun h => h.elim hbe (fun h => by rw [hlt] at h; cases h)))
                      clear hbe hCond hlt
                      go_wp2_with (go_at_call 108; refine (CL.out _ (by (repeat (first | exact Ext.refl _ | assumption | refine Ext.alloc ?_ _ | refine Ext.drewN ?_ _ | refine Ext.drew ?_)))).mono ?_; rintro e w8 ⟨rfl, x8⟩; have X8 := Lib.hid (Ext.trans (show Ext w9 _ by (repeat (first | exact Ext.refl _ | assumption | refine Ext.alloc ?_ _ | refine Ext.drewN ?_ _ | refine Ext.drew ?_))) x8); clear x8)
                      go_roundw
                      case rel => exact Lib.hid ⟨j + 1, (x : Int) - 1, ab2, cb2, by omega, by have := HXJ.out; omega, by go_num, by rw [hS2.out], by rw [hS2.out]; exact IB2.out.ext (X4.out.trans (X9.out.trans (X8.out.trans (by (repeat (first | exact Ext.refl _ | assumption | refine Ext.alloc ?_ _ | refine Ext.drewN ?_ _ | refine Ext.drew ?_)))))), HX3.out.trans (X4.out.trans (X9.out.trans (X8.out.trans (by (repeat (first | exact Ext.refl _ | assumption | refine Ext.alloc ?_ _ | refine Ext.drewN ?_ _ | refine Ext.drew ?_))))))⟩
                      case measure => first | (simp [intOf]; done) | (simp [intOf]; omega)
                    · rw [hlt] at CL
                      have hS2 : Hid (bsA E F (p, tr) b0 (j + 1) = tr ++ [(x : Int)]) := hCond.out.trans (if_pos (.inr hlt))
                      clear hbe hCond hlt
                      go_wp2_with (go_at_call 108; refine (CL.out _ (by (repeat (first | exact Ext.refl _ | assumption | refine Ext.alloc ?_ _ | refine Ext.drewN ?_ _ | refine Ext.drew ?_)))).mono ?_; rintro e w8 ⟨rfl, x8⟩; have X8 := Lib.hid (Ext.trans (show Ext w9 _ by (repeat (first | exact Ext.refl _ | assumption | refine Ext.alloc ?_ _ | refine Ext.drewN ?_ _ | refine Ext.drew ?_))) x8); clear x8)
                      go_roundw
                      case rel => exact Lib.hid ⟨j + 1, (x : Int) - 1, a4, c4, by omega, by have := HXJ.out; omega, by go_num, by rw [hS2.out, HL4.out], by rw [hS2.out]; exact I4.out.ext (X9.out.trans (X8.out.trans (by (repeat (first | exact Ext.refl _ | assumption | refine Ext.alloc ?_ _ | refine Ext.drewN ?_ _ | refine Ext.drew ?_))))), HX3.out.trans (X4.out.trans (X9.out.trans (X8.out.trans (by (repeat (first | exact Ext.refl _ | assumption | refine Ext.alloc ?_ _ | refine Ext.drewN ?_ _ | refine Ext.drew ?_))))))⟩
                      case measure => first | (simp [intOf]; done) | (simp [intOf]; omega)
              · obtain rfl : j = 4 := by omega
                have htm : t = -1 := by omega
                clear ht
                subst htm
                go_wp2
                go_roundw
                case rel => exact Lib.hid ⟨k + 1, ab2, cb2, by omega, by go_num, by rw [hLS.out], by rw [hLS.out]; exact IB2.out, HX2.out.trans HX3.out⟩
                case measure => simp [intOf]; omega
          · obtain rfl : m = k := by omega
            have hkz : bsL E F lv m = bsL E F lv lv.length := by rw [HM.out]
            by_cases hbe : bsL E F lv m = []
            · have hb0 : (bsL E F lv m).length = 0 := by rw [hbe]; rfl
              have HNext := Lib.hid (HDf.out.trans (HNone.out hbe))
              rw [hb0]
              clear hbe hb0 hkz IB HBest HNone HSome hbl HWk1 HPl HIn HWk HDf
              have XO := Lib.hid (HX.out.trans HX2.out)
              have OSw := Lib.hid (OS.out.ext HX2.out)
              have OTw := Lib.hid (OT.out.ext HX2.out)
              have ONw := Lib.hid (ON.out.ext HX2.out)
              obtain ⟨vsrc, hsrc⟩ := ONw.out.src
              have HSrc := Lib.hid hsrc
              have hzo := HX2.out.size
              clear hsrc
              have hlm : Hid ((lv.map fun v => rowP v.1).length = m) := by unfold Hid; rw [List.length_map, HM.out]
              go_wp2_with (at_builtin; refine any_append_ls (by rfl) _ _ _ rfl (w2.heap.size + 1) (ek 3) 23 neE Tryz.underlying24 infoInts (.slice as_ ns cs) ((sAt N M l).map rowP) rfl (OSw.out.ext (by (repeat (first | exact Ext.refl _ | assumption | refine Ext.alloc ?_ _ | refine Ext.drewN ?_ _ | refine Ext.drew ?_)))) _ _ _ vsrc (lv.map fun v => rowP v.1) rfl hlm.out (HSrc.out.ext (by (repeat (first | exact Ext.refl _ | assumption | refine Ext.alloc ?_ _ | refine Ext.drewN ?_ _ | refine Ext.drew ?_)))) (by rw [HNS.out]; omega) (by omega) ?_)
              intro v7 w7 o7 g7
              have hty : ∀ q, (Value.slice as_ ns cs).ownBlock = some q → ∃ cs fz, wr.heap[q]? = some (.cells cs 23 fz) := OSw.out.typed
              have T7 := Lib.hid (OwnLs.young OTw.out HSb.out g7 hty neE)
              have N7 := Lib.hid (OwnLs.young ONw.out HSb.out g7 hty neE)
              have X7 : Hid (Ext W w7) := Ext.row XO.out g7 (fun q hq => by have := OSw.out.lt q hq; omega)
              rw [← HSA.out] at o7
              have O7 := Lib.hid o7
              have hz7 := Nat.le_trans hzo g7.size
              obtain ⟨a7, c7, rfl⟩ := o7.shape
              have HS7 : Hid (∀ q, (Value.slice a7 (S1.map rowP).length c7).ownBlock = some q → q < w7.heap.size) := fun q hq => (O7.out.lt q hq).2
              have hns7 : (S1.map rowP).length ≤ 1048576 := by rw [List.length_map]; exact hBd.1
              have CH1 : Hid (∀ w' (p : Nat × Nat), Ext w7 w' → Calls Tryz.prog 60 #[.slice a7 (S1.map rowP).length c7, .int .i64 (p.1 : Nat), .int .i64 (p.2 : Nat)] w' fun r w'' => r = .returned (.bool (decide (p ∈ S1))) ∧ Ext w' w'') := fun w' p y => by
                have h := l6Has_c a7 c7 (S1.map rowP) (p.1 : Nat) (p.2 : Nat) w' (O7.out.ext y).rows (by omega)
                rw [mem_xy] at h
                exact h
              clear o7 g7 hty OSw OTw ONw HSrc OS OT ON HSA HSb hlm vsrc
              generalize hn7 : (S1.map rowP).length = n7 at *
              have HN7 := Lib.hid hn7
              clear hn7
              go_wp2
              go_loopw [17, 18, 19] (fun vu vx i wr => Hid (∃ k : Nat, k ≤ m ∧ i = .int .i64 k ∧ OwnLs wr w7.heap.size (ek 3) 23 vu ((lvW N M S1 lv k).2.map fun v => v.2) ∧ OwnLs wr w7.heap.size (ek 3) 23 vx ((lvW N M S1 lv k).2.map fun v => rowP v.1) ∧ Bes vu vx ∧ Ext w7 wr)) (fun _ _ i _ => m - (intOf i).toNat)
              case atStart => exact Lib.hid ⟨0, Nat.zero_le _, rfl, (OwnLs.empty _ _ _).ext (by (repeat (first | exact Ext.refl _ | assumption | refine Ext.alloc ?_ _ | refine Ext.drewN ?_ _ | refine Ext.drew ?_))), (OwnLs.empty' (w := w7.alloc (.cells #[] 23)) (by simp) _ _).mono (by simp), .inr (by simp [Value.ownBlock]), by (repeat (first | exact Ext.refl _ | assumption | refine Ext.alloc ?_ _ | refine Ext.drewN ?_ _ | refine Ext.drew ?_))⟩
              case round =>
                obtain ⟨k, hk, rfl, hu, hxx, hbs, hx4⟩ := hrel.out
                obtain ⟨au, cu, rfl⟩ := hu.shape
                obtain ⟨ax, cx, rfl⟩ := hxx.shape
                have HU := Lib.hid hu
                have HXX := Lib.hid hxx
                have HBs := Lib.hid hbs
                have HX4 := Lib.hid hx4
                clear hrel hu hxx hbs hx4
                by_cases hkm : k < m
                · have hki : (k : Int) < (m : Int) := by omega
                  have hkl : k < lv.length := by rw [HM.out]; exact hkm
                  obtain ⟨gt, rfl, -, hgt, -, hrt⟩ := T7.out.row (by rw [List.length_map]; omega)
                  obtain ⟨ai, ci0, q1, q2, q3⟩ := hrt k (by rw [List.length_map]; exact hkl)
                  rw [rowI_mapW (f := fun v => v.2) hkl] at q1 q2 q3
                  obtain ⟨g, rfl, -, hg, -, hrn⟩ := N7.out.row (by rw [List.length_map]; omega)
                  obtain ⟨an', ci, s1, s2, s3⟩ := hrn k (by rw [List.length_map]; exact hkl)
                  rw [rowI_mapW (f := fun v => rowP v.1) hkl] at s1 s2 s3
                  obtain ⟨gr, og, rfl, t0, t1⟩ := s3.two
                  have hpl := HPl1.out k hkm
                  have hwl := HWk2.out _ (atW_mem hkl)
                  obtain ⟨⟨e0, e1⟩, f0, f1⟩ := HBx.out w7 X7.out
                  have HV : Hid (HeldV w1.heap.size w2.heap.size g k gr og (.slice a1 nE c1) (.slice a2 nN c2) (.slice b1 nF d1) (.slice b2 nM d2) (.slice (some ⟨gr, og, none⟩) 2 ci) (.int .i64 ((atW lv k).1.1 : Nat)) (.int .i64 ((atW lv k).1.2 : Nat)) w7) := ⟨⟨⟨e0, e1⟩, f0, f1⟩, s1, t0, t1⟩
                  have Q1 := Lib.hid q1
                  have Q3 := Lib.hid q3
                  have hLS : Hid (lvW N M S1 lv (k + 1) = addW N M (lvW N M S1 lv k) (atW lv k) 12) := rfl
                  have HMem1 := Lib.hid (fun mm p => HMem.out k mm (atW lv k) p)
                  have HIn2 := Lib.hid (fun mm (h : mm ≤ 12) => HIn1.out k mm h (atW lv k))
                  clear hrt hrn q1 q3 s1 s2 s3 t0 t1 e0 e1 f0 f1
                  generalize hS0 : lvW N M S1 lv k = so at *
                  clear hS0
                  generalize hww : atW lv k = wk0 at *
                  clear hww
                  obtain ⟨⟨p, tr⟩, hwk⟩ : ∃ q : (Nat × Nat) × List Int, q = wk0 := ⟨_, rfl⟩
                  subst hwk
                  simp only at hpl hwl HV Q1 Q3
                  have hwl2 : tr.length ≤ 40 := by omega
                  clear hwl
                  have hlu0 : (so.2.map fun v => v.2).length = so.2.length := List.length_map ..
                  have hlx0 : (so.2.map fun v => rowP v.1).length = so.2.length := List.length_map ..
                  rw [hlu0] at HU HBs ⊢
                  rw [hlx0] at HXX HBs ⊢
                  clear hlu0 hlx0
                  go_wp2
                  go_loopw [17, 18, 20] (fun vu vx i wr => Hid (∃ mm : Nat, mm ≤ 12 ∧ i = .int .i64 mm ∧ OwnLs wr w7.heap.size (ek 3) 23 vu ((addW N M so (p, tr) mm).2.map fun v => v.2) ∧ OwnLs wr w7.heap.size (ek 3) 23 vx ((addW N M so (p, tr) mm).2.map fun v => rowP v.1) ∧ Bes vu vx ∧ Ext w7 wr)) (fun _ _ i _ => 12 - (intOf i).toNat)
                  case atStart => exact Lib.hid ⟨0, by omega, rfl, HU.out, HXX.out, HBs.out, HX4.out⟩
                  case round =>
                    obtain ⟨mm, hmm, rfl, hu, hxx, hbs, hx5⟩ := hrel.out
                    obtain ⟨au, cu, rfl⟩ := hu.shape
                    obtain ⟨ax, cx, rfl⟩ := hxx.shape
                    have HU2 := Lib.hid hu
                    have HXX2 := Lib.hid hxx
                    have HBs2 := Lib.hid hbs
                    have HX5 := Lib.hid hx5
                    clear hrel hu hxx hbs hx5
                    by_cases hm12 : mm < 12
                    · have hmi : (mm : Int) < 12 := by omega
                      have HC := Lib.hid (HV.out.more HX5.out)
                      have XWr := Lib.hid (X7.out.trans HX5.out)
                      have hzw := HX5.out.size
                      have q1w : wr.cell? ⟨gt, k, none⟩ = some (.slice ai tr.length ci0) := HX5.out.cell' Q1.out hgt
                      have hgtw := Nat.lt_of_lt_of_le hgt hzw
                      have Q3w := Lib.hid (Q3.out.ext HX5.out)
                      have CX1 : Hid (∀ w', Ext wr w' → Calls Tryz.prog 63 #[autV a1 nE c1 a2 nN c2, .int .i64 (p.1 : Nat), .int .i64 (mm : Nat)] w' fun r w'' => r = .returned (.int .i64 (stp N p.1 mm : Nat)) ∧ Ext w' w'') := fun w' y => SX.out w' a1 c1 a2 c2 p.1 mm (RA2.out.ext (X2W.out.trans (XWr.out.trans y))) hpl.1 hm12
                      have CY1 : Hid (∀ w', Ext wr w' → Calls Tryz.prog 63 #[autV b1 nF d1 b2 nM d2, .int .i64 (p.2 : Nat), .int .i64 (mm : Nat)] w' fun r w'' => r = .returned (.int .i64 (stp M p.2 mm : Nat)) ∧ Ext w' w'') := fun w' y => SY.out w' b1 d1 b2 d2 p.2 mm (RB2.out.ext (X2W.out.trans (XWr.out.trans y))) hpl.2 hm12
                      have hlu : ((addW N M so (p, tr) mm).2.map fun v => v.2).length = (addW N M so (p, tr) mm).2.length := List.length_map ..
                      have hlx : ((addW N M so (p, tr) mm).2.map fun v => rowP v.1).length = (addW N M so (p, tr) mm).2.length := List.length_map ..
                      rw [hlu] at HU2 HBs2 ⊢
                      rw [hlx] at HXX2 HBs2 ⊢
                      have hLL := HIn2.out mm hmm
                      have CN1 : Hid (∀ w', Ext wr w' → Calls Tryz.prog 60 #[.slice ax (addW N M so (p, tr) mm).2.length cx, .int .i64 (stp N p.1 mm : Nat), .int .i64 (stp M p.2 mm : Nat)] w' fun r w'' => r = .returned (.bool (decide (nxP N M p mm ∈ (addW N M so (p, tr) mm).2.map Prod.fst))) ∧ Ext w' w'') := fun w' y => by
                        have h := l6Has_c ax cx ((addW N M so (p, tr) mm).2.map fun v => rowP v.1) ((nxP N M p mm).1 : Nat) ((nxP N M p mm).2 : Nat) w' (HXX2.out.ext y).rows (by omega)
                        have e : ((addW N M so (p, tr) mm).2.map fun v => rowP v.1) = ((addW N M so (p, tr) mm).2.map Prod.fst).map rowP := by rw [List.map_map]; rfl
                        rw [hlx, e, mem_xy] at h
                        exact h
                      have CS1 : Hid (∀ w', Ext wr w' → Calls Tryz.prog 60 #[.slice a7 n7 c7, .int .i64 (stp N p.1 mm : Nat), .int .i64 (stp M p.2 mm : Nat)] w' fun r w'' => r = .returned (.bool (decide (nxP N M p mm ∈ S1))) ∧ Ext w' w'') := fun w' y => CH1.out w' (nxP N M p mm) (HX5.out.trans y)
                      have HY : Hid (nxP N M p mm ∈ (addW N M so (p, tr) mm).1 → (addW N M so (p, tr) (mm + 1)).2 = (addW N M so (p, tr) mm).2) := fun h => by
                        show (if nxP N M p mm ∈ (addW N M so (p, tr) mm).1 then addW N M so (p, tr) mm else _).2 = _
                        rw [if_pos h]
                      have HN : Hid (nxP N M p mm ∉ (addW N M so (p, tr) mm).1 → (addW N M so (p, tr) (mm + 1)).2 = (addW N M so (p, tr) mm).2 ++ [(nxP N M p mm, tr ++ [((mm / 3 : Nat) : Int), 16 + ((mm % 3 : Nat) : Int)])]) := fun h => by
                        show (if nxP N M p mm ∈ (addW N M so (p, tr) mm).1 then addW N M so (p, tr) mm else _).2 = _
                        rw [if_neg h]; rfl
                      have HMm := Lib.hid (HMem1.out mm (nxP N M p mm))
                      have hn1 : Hid (rowP (nxP N M p mm) = [((stp N p.1 mm : Nat) : Int), ((stp M p.2 mm : Nat) : Int)]) := rfl
                      clear hlu hlx
                      generalize nxP N M p mm = q at *
                      generalize hL1 : (addW N M so (p, tr) mm).1 = L1 at *
                      generalize hL2 : (addW N M so (p, tr) mm).2 = L2 at *
                      clear hL1 hL2
                      generalize stp N p.1 mm = y0 at *
                      generalize stp M p.2 mm = y1 at *
                      generalize hnl : L2.length = nl at *
                      have HNL := Lib.hid hnl
                      clear hnl
                      generalize htl : tr.length = nt at *
                      have HTL := Lib.hid htl
                      clear htl
                      go_wp2
                      have K0b3 : HeldW w1.heap.size w2.heap.size g k gr og (.slice a1 nE c1) (.slice a2 nN c2) (.slice b1 nF d1) (.slice b2 nM d2) (.slice (some ⟨gr, og, none⟩) 2 ci) (.int .i64 (p.1 : Nat)) (.int .i64 (p.2 : Nat)) wr wr.drew := ⟨HC.out.more (by (repeat (first | exact Ext.refl _ | assumption | refine Ext.alloc ?_ _ | refine Ext.drewN ?_ _ | refine Ext.drew ?_))), by (repeat (first | exact Ext.refl _ | assumption | refine Ext.alloc ?_ _ | refine Ext.drewN ?_ _ | refine Ext.drew ?_))⟩
                      refine wp_region_held_drew (S := HeldW w1.heap.size w2.heap.size g k gr og (.slice a1 nE c1) (.slice a2 nN c2) (.slice b1 nF d1) (.slice b2 nM d2) (.slice (some ⟨gr, og, none⟩) 2 ci) (.int .i64 (p.1 : Nat)) (.int .i64 (p.2 : Nat)) wr) (by kernel_rfl) K0b3 (fun hHeld => ?_)
                      (refine wpAnyH_take (i := 0) (v := ?v0b3) (by simp only [List.getElem?_toArray, List.getElem?_cons_zero]; rfl) (by kernel_rfl) (by kernel_rfl) (by kernel_rfl) (by exact fun _ _ _ h => h) (Or.inl ⟨by rfl, ?y0b3⟩) (by assumption) ?r0b3)
                      case y0b3 =>
                        intro w hSw
                        obtain ⟨⟨⟨⟨hs0, hs1⟩, hs2, hs3⟩, hs4, hs5, hs6⟩, -⟩ := hSw
                        go_simp
                        all_goals (with_reducible rfl)
                      (try go_frame)
                      (refine wpAnyH_take (i := 1) (v := ?v1b3) (by simp only [List.getElem?_toArray, List.getElem?_cons_succ, List.getElem?_cons_zero]; rfl) (by kernel_rfl) (by kernel_rfl) (by kernel_rfl) (by exact fun _ _ _ h => h) (Or.inl ⟨by rfl, ?y1b3⟩) (by assumption) ?r1b3)
                      case y1b3 =>
                        intro w hSw
                        obtain ⟨⟨⟨⟨hs0, hs1⟩, hs2, hs3⟩, hs4, hs5, hs6⟩, -⟩ := hSw
                        go_simp
                        all_goals (with_reducible rfl)
                      (try go_frame)
                      (refine wpAnyH_take (i := 2) (v := ?v2b3) (by simp only [List.getElem?_toArray, List.getElem?_cons_succ, List.getElem?_cons_zero]; rfl) (by kernel_rfl) (by kernel_rfl) (by kernel_rfl) (by exact fun _ _ _ h => h) (Or.inl ⟨by rfl, ?y2b3⟩) (by assumption) ?r2b3)
                      case y2b3 =>
                        intro w hSw
                        obtain ⟨⟨⟨⟨hs0, hs1⟩, hs2, hs3⟩, hs4, hs5, hs6⟩, -⟩ := hSw
                        go_simp
                        all_goals (with_reducible rfl)
                      (try go_frame)
                      (refine wpAnyH_take (i := 3) (v := ?v3b3) (by simp only [List.getElem?_toArray, List.getElem?_cons_succ, List.getElem?_cons_zero]; rfl) (by kernel_rfl) (by kernel_rfl) (by kernel_rfl) (by exact fun _ _ _ h => h) (Or.inl ⟨by rfl, ?y3b3⟩) (by assumption) ?r3b3)
                      case y3b3 =>
                        intro w hSw
                        obtain ⟨⟨⟨⟨hs0, hs1⟩, hs2, hs3⟩, hs4, hs5, hs6⟩, -⟩ := hSw
                        go_simp
                        all_goals (with_reducible rfl)
                      (try go_frame)
                      (refine wpAnyH_take (i := 4) (v := ?v4b3) (by simp only [List.getElem?_toArray, List.getElem?_cons_succ, List.getElem?_cons_zero]; rfl) (by kernel_rfl) (by kernel_rfl) (by kernel_rfl) (by exact fun _ _ _ h => h) (Or.inl ⟨by rfl, ?y4b3⟩) (by assumption) ?r4b3)
                      case y4b3 =>
                        intro w hSw
                        obtain ⟨⟨⟨⟨hs0, hs1⟩, hs2, hs3⟩, hs4, hs5, hs6⟩, -⟩ := hSw
                        go_simp
                        all_goals (with_reducible rfl)
                      (try go_frame)
                      (refine wpAnyH_take (i := 5) (v := ?v5b3) (by simp only [List.getElem?_toArray, List.getElem?_cons_succ, List.getElem?_cons_zero]; rfl) (by kernel_rfl) (by kernel_rfl) (by kernel_rfl) (by exact fun _ _ _ h => h) (Or.inl ⟨by rfl, ?y5b3⟩) (by assumption) ?r5b3)
                      case y5b3 =>
                        intro w hSw
                        obtain ⟨⟨⟨⟨hs0, hs1⟩, hs2, hs3⟩, hs4, hs5, hs6⟩, -⟩ := hSw
                        go_simp
                        all_goals (with_reducible rfl)
                      (try go_frame)
                      (refine wpAnyH_take (i := 6) (v := ?v6b3) (by simp only [List.getElem?_toArray, List.getElem?_cons_succ, List.getElem?_cons_zero]; rfl) (by kernel_rfl) (by kernel_rfl) (by kernel_rfl) (by exact fun _ _ _ h => h) (Or.inl ⟨by rfl, ?y6b3⟩) (by assumption) ?r6b3)
                      case y6b3 =>
                        intro w hSw
                        obtain ⟨⟨⟨⟨hs0, hs1⟩, hs2, hs3⟩, hs4, hs5, hs6⟩, -⟩ := hSw
                        go_simp
                        all_goals (with_reducible rfl)
                      (try go_frame)
                      (refine wpAnyH_take (i := 7) (v := ?v7b3) (by simp only [List.getElem?_toArray, List.getElem?_cons_succ, List.getElem?_cons_zero]; rfl) (by kernel_rfl) (by kernel_rfl) (by kernel_rfl) (by exact fun _ _ _ h => h) (Or.inl ⟨by rfl, ?y7b3⟩) (by assumption) ?r7b3)
                      case y7b3 =>
                        intro w hSw
                        obtain ⟨⟨⟨⟨hs0, hs1⟩, hs2, hs3⟩, hs4, hs5, hs6⟩, -⟩ := hSw
                        go_simp
                        all_goals (with_reducible rfl)
                      (try go_frame)
                      refine wpAnyH_ready (rs := [8]) (by kernel_rfl) (by simp) ?_
                      refine AllReadyH.cons (by simp only [List.getElem?_toArray, List.getElem?_cons_succ, List.getElem?_cons_zero]; rfl) (fun K hK => ?_) AllReadyH.nil
                      go_simp
                      (go_at_call 63; with_reducible refine (CX1.out _ (And.right (show HeldW w1.heap.size w2.heap.size g k gr og (.slice a1 nE c1) (.slice a2 nN c2) (.slice b1 nF d1) (.slice b2 nM d2) (.slice (some ⟨gr, og, none⟩) 2 ci) (.int .i64 (p.1 : Nat)) (.int .i64 (p.2 : Nat)) wr _ by assumption))).mono ?_; rintro e wk ⟨rfl, yk⟩)
                      refine hK.out _ _ ?_ (fun hHeld => ?_)
                      · exact HeldW.more (by assumption) yk
                      clear hK K
                      (try go_frame)
                      (refine wpAnyH_take (i := 9) (v := ?v9b3) (by simp only [List.getElem?_toArray, List.getElem?_cons_succ, List.getElem?_cons_zero]; rfl) (by kernel_rfl) (by kernel_rfl) (by kernel_rfl) (by exact fun _ _ _ h => h) (Or.inl ⟨by rfl, ?y9b3⟩) (by assumption) ?r9b3)
                      case y9b3 =>
                        intro w hSw
                        obtain ⟨⟨⟨⟨hs0, hs1⟩, hs2, hs3⟩, hs4, hs5, hs6⟩, -⟩ := hSw
                        go_simp
                        all_goals (with_reducible rfl)
                      (try go_frame)
                      refine wpAnyH_done (by kernel_rfl) ?_ _
                      refine world_cut1 (w0 := wr) (And.right (show HeldW w1.heap.size w2.heap.size g k gr og (.slice a1 nE c1) (.slice a2 nN c2) (.slice b1 nF d1) (.slice b2 nM d2) (.slice (some ⟨gr, og, none⟩) 2 ci) (.int .i64 (p.1 : Nat)) (.int .i64 (p.2 : Nat)) wr _ by assumption)) ?_
                      intro w9 x9
                      have X9 := Lib.hid x9
                      clear x9
                      go_wp2
                      have K0c4 : HeldW w1.heap.size w2.heap.size g k gr og (.slice a1 nE c1) (.slice a2 nN c2) (.slice b1 nF d1) (.slice b2 nM d2) (.slice (some ⟨gr, og, none⟩) 2 ci) (.int .i64 (p.1 : Nat)) (.int .i64 (p.2 : Nat)) w9 w9.drew := ⟨HC.out.more (X9.out.trans (by (repeat (first | exact Ext.refl _ | assumption | refine Ext.alloc ?_ _ | refine Ext.drewN ?_ _ | refine Ext.drew ?_)))), by (repeat (first | exact Ext.refl _ | assumption | refine Ext.alloc ?_ _ | refine Ext.drewN ?_ _ | refine Ext.drew ?_))⟩
                      refine wp_region_held_drew (S := HeldW w1.heap.size w2.heap.size g k gr og (.slice a1 nE c1) (.slice a2 nN c2) (.slice b1 nF d1) (.slice b2 nM d2) (.slice (some ⟨gr, og, none⟩) 2 ci) (.int .i64 (p.1 : Nat)) (.int .i64 (p.2 : Nat)) w9) (by kernel_rfl) K0c4 (fun hHeld => ?_)
                      (refine wpAnyH_take (i := 0) (v := ?v0c4) (by simp only [List.getElem?_toArray, List.getElem?_cons_zero]; rfl) (by kernel_rfl) (by kernel_rfl) (by kernel_rfl) (by exact fun _ _ _ h => h) (Or.inl ⟨by rfl, ?y0c4⟩) (by assumption) ?r0c4)
                      case y0c4 =>
                        intro w hSw
                        obtain ⟨⟨⟨⟨hs0, hs1⟩, hs2, hs3⟩, hs4, hs5, hs6⟩, -⟩ := hSw
                        go_simp
                        all_goals (with_reducible rfl)
                      (try go_frame)
                      (refine wpAnyH_take (i := 1) (v := ?v1c4) (by simp only [List.getElem?_toArray, List.getElem?_cons_succ, List.getElem?_cons_zero]; rfl) (by kernel_rfl) (by kernel_rfl) (by kernel_rfl) (by exact fun _ _ _ h => h) (Or.inl ⟨by rfl, ?y1c4⟩) (by assumption) ?r1c4)
                      case y1c4 =>
                        intro w hSw
                        obtain ⟨⟨⟨⟨hs0, hs1⟩, hs2, hs3⟩, hs4, hs5, hs6⟩, -⟩ := hSw
                        go_simp
                        all_goals (with_reducible rfl)
                      (try go_frame)
                      (refine wpAnyH_take (i := 2) (v := ?v2c4) (by simp only [List.getElem?_toArray, List.getElem?_cons_succ, List.getElem?_cons_zero]; rfl) (by kernel_rfl) (by kernel_rfl) (by kernel_rfl) (by exact fun _ _ _ h => h) (Or.inl ⟨by rfl, ?y2c4⟩) (by assumption) ?r2c4)
                      case y2c4 =>
                        intro w hSw
                        obtain ⟨⟨⟨⟨hs0, hs1⟩, hs2, hs3⟩, hs4, hs5, hs6⟩, -⟩ := hSw
                        go_simp
                        all_goals (with_reducible rfl)
                      (try go_frame)
                      (refine wpAnyH_take (i := 3) (v := ?v3c4) (by simp only [List.getElem?_toArray, List.getElem?_cons_succ, List.getElem?_cons_zero]; rfl) (by kernel_rfl) (by kernel_rfl) (by kernel_rfl) (by exact fun _ _ _ h => h) (Or.inl ⟨by rfl, ?y3c4⟩) (by assumption) ?r3c4)
                      case y3c4 =>
                        intro w hSw
                        obtain ⟨⟨⟨⟨hs0, hs1⟩, hs2, hs3⟩, hs4, hs5, hs6⟩, -⟩ := hSw
                        go_simp
                        all_goals (with_reducible rfl)
                      (try go_frame)
                      (refine wpAnyH_take (i := 4) (v := ?v4c4) (by simp only [List.getElem?_toArray, List.getElem?_cons_succ, List.getElem?_cons_zero]; rfl) (by kernel_rfl) (by kernel_rfl) (by kernel_rfl) (by exact fun _ _ _ h => h) (Or.inl ⟨by rfl, ?y4c4⟩) (by assumption) ?r4c4)
                      case y4c4 =>
                        intro w hSw
                        obtain ⟨⟨⟨⟨hs0, hs1⟩, hs2, hs3⟩, hs4, hs5, hs6⟩, -⟩ := hSw
                        go_simp
                        all_goals (with_reducible rfl)
                      (try go_frame)
                      (refine wpAnyH_take (i := 5) (v := ?v5c4) (by simp only [List.getElem?_toArray, List.getElem?_cons_succ, List.getElem?_cons_zero]; rfl) (by kernel_rfl) (by kernel_rfl) (by kernel_rfl) (by exact fun _ _ _ h => h) (Or.inl ⟨by rfl, ?y5c4⟩) (by assumption) ?r5c4)
                      case y5c4 =>
                        intro w hSw
                        obtain ⟨⟨⟨⟨hs0, hs1⟩, hs2, hs3⟩, hs4, hs5, hs6⟩, -⟩ := hSw
                        go_simp
                        all_goals (with_reducible rfl)
                      (try go_frame)
                      (refine wpAnyH_take (i := 6) (v := ?v6c4) (by simp only [List.getElem?_toArray, List.getElem?_cons_succ, List.getElem?_cons_zero]; rfl) (by kernel_rfl) (by kernel_rfl) (by kernel_rfl) (by exact fun _ _ _ h => h) (Or.inl ⟨by rfl, ?y6c4⟩) (by assumption) ?r6c4)
                      case y6c4 =>
                        intro w hSw
                        obtain ⟨⟨⟨⟨hs0, hs1⟩, hs2, hs3⟩, hs4, hs5, hs6⟩, -⟩ := hSw
                        go_simp
                        all_goals (with_reducible rfl)
                      (try go_frame)
                      (refine wpAnyH_take (i := 7) (v := ?v7c4) (by simp only [List.getElem?_toArray, List.getElem?_cons_succ, List.getElem?_cons_zero]; rfl) (by kernel_rfl) (by kernel_rfl) (by kernel_rfl) (by exact fun _ _ _ h => h) (Or.inl ⟨by rfl, ?y7c4⟩) (by assumption) ?r7c4)
                      case y7c4 =>
                        intro w hSw
                        obtain ⟨⟨⟨⟨hs0, hs1⟩, hs2, hs3⟩, hs4, hs5, hs6⟩, -⟩ := hSw
                        go_simp
                        all_goals (with_reducible rfl)
                      (try go_frame)
                      refine wpAnyH_ready (rs := [8]) (by kernel_rfl) (by simp) ?_
                      refine AllReadyH.cons (by simp only [List.getElem?_toArray, List.getElem?_cons_succ, List.getElem?_cons_zero]; rfl) (fun K hK => ?_) AllReadyH.nil
                      go_simp
                      (go_at_call 63; with_reducible refine (CY1.out _ (X9.out.trans (And.right (show HeldW w1.heap.size w2.heap.size g k gr og (.slice a1 nE c1) (.slice a2 nN c2) (.slice b1 nF d1) (.slice b2 nM d2) (.slice (some ⟨gr, og, none⟩) 2 ci) (.int .i64 (p.1 : Nat)) (.int .i64 (p.2 : Nat)) w9 _ by assumption)))).mono ?_; rintro e wk ⟨rfl, yk⟩)
                      refine hK.out _ _ ?_ (fun hHeld => ?_)
                      · exact HeldW.more (by assumption) yk
                      clear hK K
                      (try go_frame)
                      (refine wpAnyH_take (i := 9) (v := ?v9c4) (by simp only [List.getElem?_toArray, List.getElem?_cons_succ, List.getElem?_cons_zero]; rfl) (by kernel_rfl) (by kernel_rfl) (by kernel_rfl) (by exact fun _ _ _ h => h) (Or.inl ⟨by rfl, ?y9c4⟩) (by assumption) ?r9c4)
                      case y9c4 =>
                        intro w hSw
                        obtain ⟨⟨⟨⟨hs0, hs1⟩, hs2, hs3⟩, hs4, hs5, hs6⟩, -⟩ := hSw
                        go_simp
                        all_goals (with_reducible rfl)
                      (try go_frame)
                      refine wpAnyH_done (by kernel_rfl) ?_ _
                      refine world_cut1 (w0 := w9) (And.right (show HeldW w1.heap.size w2.heap.size g k gr og (.slice a1 nE c1) (.slice a2 nN c2) (.slice b1 nF d1) (.slice b2 nM d2) (.slice (some ⟨gr, og, none⟩) 2 ci) (.int .i64 (p.1 : Nat)) (.int .i64 (p.2 : Nat)) w9 _ by assumption)) ?_
                      intro w8 x8
                      have X8 := Lib.hid x8
                      clear x8
                      have XB := Lib.hid (X9.out.trans X8.out)
                      by_cases hq : q ∈ L1
                      · have HS := Lib.hid (HY.out hq)
                        by_cases hs : q ∈ S1
                        · rw [decide_eq_true hs] at CS1
                          clear hs hq HY HN CN1 HMm
                          go_wp2_with (go_at_call 60; refine (CS1.out _ (XB.out.trans (by (repeat (first | exact Ext.refl _ | assumption | refine Ext.alloc ?_ _ | refine Ext.drewN ?_ _ | refine Ext.drew ?_))))).mono ?_; rintro e w6 ⟨rfl, x6⟩; have X6 := Lib.hid (XB.out.trans (Ext.trans (by (repeat (first | exact Ext.refl _ | assumption | refine Ext.alloc ?_ _ | refine Ext.drewN ?_ _ | refine Ext.drew ?_))) x6)); clear x6)
                          go_roundw
                          case rel => exact Lib.hid ⟨mm + 1, by omega, by go_num, by rw [HS.out]; exact HU2.out.ext (X6.out.trans (by (repeat (first | exact Ext.refl _ | assumption | refine Ext.alloc ?_ _ | refine Ext.drewN ?_ _ | refine Ext.drew ?_)))), by rw [HS.out]; exact HXX2.out.ext (X6.out.trans (by (repeat (first | exact Ext.refl _ | assumption | refine Ext.alloc ?_ _ | refine Ext.drewN ?_ _ | refine Ext.drew ?_)))), HBs2.out, HX5.out.trans (X6.out.trans (by (repeat (first | exact Ext.refl _ | assumption | refine Ext.alloc ?_ _ | refine Ext.drewN ?_ _ | refine Ext.drew ?_))))⟩
                          case measure => simp [intOf]; omega
                        · have hin : q ∈ L2.map Prod.fst := (HMm.out.1 hq).elim (fun h => absurd h hs) id
                          rw [decide_eq_false hs] at CS1
                          rw [decide_eq_true hin] at CN1
                          clear hs hq HY HN HMm hin
                          go_wp2_with fail
                          refine (CS1.out _ (XB.out.trans (by (repeat (first | exact Ext.refl _ | assumption | refine Ext.alloc ?_ _ | refine Ext.drewN ?_ _ | refine Ext.drew ?_))))).mono ?_
                          rintro e w6 ⟨rfl, x6⟩
                          have X6 := Lib.hid (XB.out.trans (Ext.trans (by (repeat (first | exact Ext.refl _ | assumption | refine Ext.alloc ?_ _ | refine Ext.drewN ?_ _ | refine Ext.drew ?_))) x6))
                          clear x6
                          go_wp2_with (go_at_call 60; refine (CN1.out _ (X6.out.trans (by (repeat (first | exact Ext.refl _ | assumption | refine Ext.alloc ?_ _ | refine Ext.drewN ?_ _ | refine Ext.drew ?_))))).mono ?_; rintro e w5 ⟨rfl, x5⟩; have X5 := Lib.hid (X6.out.trans (Ext.trans (by (repeat (first | exact Ext.refl _ | assumption | refine Ext.alloc ?_ _ | refine Ext.drewN ?_ _ | refine Ext.drew ?_))) x5)); clear x5)
                          go_roundw
                          case rel => exact Lib.hid ⟨mm + 1, by omega, by go_num, by rw [HS.out]; exact HU2.out.ext (X5.out.trans (by (repeat (first | exact Ext.refl _ | assumption | refine Ext.alloc ?_ _ | refine Ext.drewN ?_ _ | refine Ext.drew ?_)))), by rw [HS.out]; exact HXX2.out.ext (X5.out.trans (by (repeat (first | exact Ext.refl _ | assumption | refine Ext.alloc ?_ _ | refine Ext.drewN ?_ _ | refine Ext.drew ?_)))), HBs2.out, HX5.out.trans (X5.out.trans (by (repeat (first | exact Ext.refl _ | assumption | refine Ext.alloc ?_ _ | refine Ext.drewN ?_ _ | refine Ext.drew ?_))))⟩
                          case measure => simp [intOf]; omega
                      · have hs : ¬ q ∈ S1 := fun h => hq (HMm.out.2 (.inl h))
                        have hin : ¬ q ∈ L2.map Prod.fst := fun h => hq (HMm.out.2 (.inr h))
                        have HS := Lib.hid (HN.out hq)
                        rw [decide_eq_false hs] at CS1
                        rw [decide_eq_false hin] at CN1
                        clear hs hq HY HMm hin HN
                        go_wp2_with fail
                        refine (CS1.out _ (XB.out.trans (by (repeat (first | exact Ext.refl _ | assumption | refine Ext.alloc ?_ _ | refine Ext.drewN ?_ _ | refine Ext.drew ?_))))).mono ?_
                        rintro e w6 ⟨rfl, x6⟩
                        have X6 := Lib.hid (XB.out.trans (Ext.trans (by (repeat (first | exact Ext.refl _ | assumption | refine Ext.alloc ?_ _ | refine Ext.drewN ?_ _ | refine Ext.drew ?_))) x6))
                        clear x6
                        go_wp2_with fail
                        refine (CN1.out _ (X6.out.trans (by (repeat (first | exact Ext.refl _ | assumption | refine Ext.alloc ?_ _ | refine Ext.drewN ?_ _ | refine Ext.drew ?_))))).mono ?_
                        rintro e w5 ⟨rfl, x5⟩
                        have X5 := Lib.hid (X6.out.trans (Ext.trans (by (repeat (first | exact Ext.refl _ | assumption | refine Ext.alloc ?_ _ | refine Ext.drewN ?_ _ | refine Ext.drew ?_))) x5))
                        clear x5 CS1 CN1 X6
                        have HI2 : Hid (IntsE (w5.alloc (.cells #[.int .i64 (y0 : Nat), .int .i64 (y1 : Nat)] 3)) (ek 3) (some ⟨w5.heap.size, 0, none⟩) [((y0 : Nat) : Int), ((y1 : Nat) : Int)]) := OwnI.intsE (OwnI.lit2 w5 0 3 _ _ (Nat.zero_le _))
                        have hz5 := X5.out.size
                        have hl4 : (L2.map (fun v => rowP v.1) ++ [[((y0 : Nat) : Int), ((y1 : Nat) : Int)]]).length = nl + 1 := by rw [List.length_append, List.length_map, HNL.out]; rfl
                        go_wp2_with (at_builtin; refine any_append_lsA (by rfl) _ _ _ rfl w7.heap.size (ek 3) 23 neE Tryz.underlying24 infoInts (.slice ax nl cx) (L2.map fun v => rowP v.1) rfl (HXX2.out.ext (X5.out.trans (by (repeat (first | exact Ext.refl _ | assumption | refine Ext.alloc ?_ _ | refine Ext.drewN ?_ _ | refine Ext.drew ?_))))) _ (some ⟨w5.heap.size, 0, none⟩) 2 [((y0 : Nat) : Int), ((y1 : Nat) : Int)] rfl (by simp [go_sem]) (HI2.out.ext (by (repeat (first | exact Ext.refl _ | assumption | refine Ext.alloc ?_ _ | refine Ext.drewN ?_ _ | refine Ext.drew ?_)))) (by simp) (by rw [List.length_map, HNL.out]; omega) (by simp; omega) ?_)
                        intro v4 w4 o4 g4 t4
                        have U4 := Lib.hid (OwnLs.beside (HU2.out.ext (X5.out.trans (by (repeat (first | exact Ext.refl _ | assumption | refine Ext.alloc ?_ _ | refine Ext.drewN ?_ _ | refine Ext.drew ?_))))) (HXX2.out.ext (X5.out.trans (by (repeat (first | exact Ext.refl _ | assumption | refine Ext.alloc ?_ _ | refine Ext.drewN ?_ _ | refine Ext.drew ?_))))) HBs2.out.swap g4 neE)
                        have B4 := Lib.hid (Bes.pushN HBs2.out.swap (fun q hq => by have := (HU2.out.lt q hq).2; omega) t4)
                        have X4 := Lib.hid (OwnLs.grown (w0 := w7) (HXX2.out.ext (X5.out.trans (by (repeat (first | exact Ext.refl _ | assumption | refine Ext.alloc ?_ _ | refine Ext.drewN ?_ _ | refine Ext.drew ?_))))) (HX5.out.trans (X5.out.trans (by (repeat (first | exact Ext.refl _ | assumption | refine Ext.alloc ?_ _ | refine Ext.drewN ?_ _ | refine Ext.drew ?_))))) g4)
                        obtain ⟨a4, c4, hv4⟩ := o4.shape
                        rw [hl4] at hv4
                        subst hv4
                        have O4 := Lib.hid o4
                        have q1x : w4.cell? ⟨gt, k, none⟩ = some (.slice ai nt ci0) := X4.out.cell' Q1.out hgt
                        have Q3x := Lib.hid (Q3.out.ext X4.out)
                        have hgtx := Nat.lt_of_lt_of_le hgt X4.out.size
                        clear o4 g4 t4 HI2 hz5 hl4 q1w Q3w hgtw HXX2 HU2 X5 XB X9 X8 HC CX1 CY1 XWr HV
                        obtain ⟨d, hd, hdv⟩ : ∃ d : Nat, d ≤ 3 ∧ d = mm / 3 := ⟨mm / 3, by omega, rfl⟩
                        obtain ⟨r, hr, hrv⟩ : ∃ d : Nat, d ≤ 2 ∧ d = mm % 3 := ⟨mm % 3, by omega, rfl⟩
                        rw [← hdv, ← hrv] at HS
                        have hd3 : ((mm : Int)).tdiv 3 = (d : Int) := by rw [hdv]; rfl
                        have hr3 : ((mm : Int)).tmod 3 = (r : Int) := by rw [hrv]; rfl
                        clear hdv hrv
                        go_wp2_with (at_builtin; (refine any_append_ints (by rfl) _ _ _ rfl w4.heap.size 3 Tryz.underlying23 infoInt (.slice (some ⟨w4.heap.size, 0, none⟩) 0 0) [] rfl (by first | exact OwnI.empty _ _ | exact (OwnI.empty _ _).ext (by (repeat (first | exact Ext.refl _ | assumption | refine Ext.alloc ?_ _ | refine Ext.drewN ?_ _ | refine Ext.drew ?_)))) ai ci0 tr (by rw [HTL.out]; rfl) (Q3x.out.1.ext (by (repeat (first | exact Ext.refl _ | assumption | refine Ext.alloc ?_ _ | refine Ext.drewN ?_ _ | refine Ext.drew ?_)))) (by rw [HTL.out]; first | (simp; done) | (simp; omega)) (by first | omega | (simp; done) | (simp; omega)) ?_))
                        intro v3 w3 o3 g3
                        have X3 := Lib.hid (OwnI.grown (w0 := w4) (by first | exact OwnI.empty _ _ | exact (OwnI.empty _ _).ext (by (repeat (first | exact Ext.refl _ | assumption | refine Ext.alloc ?_ _ | refine Ext.drewN ?_ _ | refine Ext.drew ?_)))) (by (repeat (first | exact Ext.refl _ | assumption | refine Ext.alloc ?_ _ | refine Ext.drewN ?_ _ | refine Ext.drew ?_))) g3)
                        obtain ⟨a3, c3, hv3, -⟩ := o3.shape
                        have O3 := Lib.hid o3
                        rw [hv3] at O3 ⊢
                        rw [HTL.out] at O3 ⊢
                        have hz3 := X3.out.size
                        clear o3 g3 hv3
                        go_wp2_with (at_builtin; refine any_append_ints (by rfl) _ _ _ rfl w4.heap.size 3 Tryz.underlying23 infoInt (.slice a3 nt c3) tr rfl (O3.out.ext (by (repeat (first | exact Ext.refl _ | assumption | refine Ext.alloc ?_ _ | refine Ext.drewN ?_ _ | refine Ext.drew ?_)))) _ _ [(d : Int), 16 + (r : Int)] rfl ((OwnI.lit2 _ _ _ _ _ (Nat.le_refl _)).ints) (by rw [HTL.out]; first | (simp; done) | (simp; omega)) (by first | omega | (simp; omega)) ?_)
                        intro v2 w8 o2 g2
                        have X8 := Lib.hid (OwnI.grown (w0 := w4) (O3.out.ext (by (repeat (first | exact Ext.refl _ | assumption | refine Ext.alloc ?_ _ | refine Ext.drewN ?_ _ | refine Ext.drew ?_)))) (X3.out.trans (by (repeat (first | exact Ext.refl _ | assumption | refine Ext.alloc ?_ _ | refine Ext.drewN ?_ _ | refine Ext.drew ?_)))) g2)
                        obtain ⟨a2', c2', hv2, -⟩ := o2.shape
                        have hl2 : (tr ++ [(d : Int), 16 + (r : Int)]).length = nt + 2 := by rw [List.length_append, HTL.out]; rfl
                        have hl2c : (tr ++ [(d : Int), 16 + (r : Int)]).length ≤ c2' := o2.capOf hv2
                        rw [hl2] at hv2
                        have hIE : IntsE w8 (ek 3) a2' (tr ++ [(d : Int), 16 + (r : Int)]) := by rw [hv2] at o2; exact o2.intsE
                        subst hv2
                        have I2 := Lib.hid hIE
                        have HL2 := Lib.hid hl2
                        have HC2 := Lib.hid hl2c
                        have hz8 := X8.out.size
                        have hz4 := X4.out.size
                        have hl6 : (L2.map (fun v => v.2) ++ [tr ++ [(d : Int), 16 + (r : Int)]]).length = nl + 1 := by rw [List.length_append, List.length_map, HNL.out]; rfl
                        clear o2 g2 hl2 hl2c O3 X3 hz3 hIE
                        go_wp2_with (at_builtin; refine any_append_lsA (by rfl) _ _ _ rfl w7.heap.size (ek 3) 23 neE Tryz.underlying24 infoInts (.slice au nl cu) (L2.map fun v => v.2) rfl (U4.out.ext (X8.out.trans (by (repeat (first | exact Ext.refl _ | assumption | refine Ext.alloc ?_ _ | refine Ext.drewN ?_ _ | refine Ext.drew ?_))))) _ a2' c2' (tr ++ [(d : Int), 16 + (r : Int)]) rfl (by rw [HL2.out]; simp [go_sem]) (I2.out.ext (by (repeat (first | exact Ext.refl _ | assumption | refine Ext.alloc ?_ _ | refine Ext.drewN ?_ _ | refine Ext.drew ?_)))) HC2.out (by rw [List.length_map, HNL.out]; omega) (by simp; omega) ?_)
                        intro v6 w6 o6 g6 t6
                        have O46 := Lib.hid (OwnLs.beside (O4.out.ext (X8.out.trans (by (repeat (first | exact Ext.refl _ | assumption | refine Ext.alloc ?_ _ | refine Ext.drewN ?_ _ | refine Ext.drew ?_))))) (U4.out.ext (X8.out.trans (by (repeat (first | exact Ext.refl _ | assumption | refine Ext.alloc ?_ _ | refine Ext.drewN ?_ _ | refine Ext.drew ?_))))) B4.out.swap g6 neE)
                        have B6 := Lib.hid (Bes.pushN B4.out.swap (fun q hq => by have := (O4.out.lt q hq).2; omega) t6)
                        have X6 := Lib.hid (OwnLs.grown (w0 := w7) (U4.out.ext (X8.out.trans (by (repeat (first | exact Ext.refl _ | assumption | refine Ext.alloc ?_ _ | refine Ext.drewN ?_ _ | refine Ext.drew ?_))))) (X4.out.trans (X8.out.trans (by (repeat (first | exact Ext.refl _ | assumption | refine Ext.alloc ?_ _ | refine Ext.drewN ?_ _ | refine Ext.drew ?_))))) g6)
                        obtain ⟨a6, c6, hv6⟩ := o6.shape
                        rw [hl6] at hv6
                        subst hv6
                        have O6 := Lib.hid o6
                        clear o6 g6 t6 O4 U4 B4 hl6
                        have hln : ∀ f : (Nat × Nat) × List Int → List Int, (List.map f (addW N M so (p, tr) (mm + 1)).2).length = nl + 1 := fun f => by rw [List.length_map, HS.out, List.length_append, HNL.out]; rfl
                        have hu6 : Hid (OwnLs w6 w7.heap.size (ek 3) 23 (.slice a6 (nl + 1) c6) ((addW N M so (p, tr) (mm + 1)).2.map fun v => v.2)) := by
                          rw [HS.out, List.map_append]; exact O6.out
                        have hx6 : Hid (OwnLs w6 w7.heap.size (ek 3) 23 (.slice a4 (nl + 1) c4) ((addW N M so (p, tr) (mm + 1)).2.map fun v => rowP v.1)) := by
                          rw [HS.out, List.map_append]; have h := O46.out; rw [← hn1.out] at h; exact h
                        clear O6 O46 HS
                        go_wp2
                        go_roundw
                        case rel => exact Lib.hid ⟨mm + 1, by omega, by go_num, hu6.out, hx6.out, B6.out.swap.swap, X6.out⟩
                        case measure => simp [intOf]; omega
                    · obtain rfl : mm = 12 := by omega
                      go_wp2
                      go_roundw
                      case rel => exact Lib.hid ⟨k + 1, by omega, by go_num, by rw [hLS.out]; exact HU2.out, by rw [hLS.out]; exact HXX2.out, HBs2.out, HX5.out⟩
                      case measure => simp [intOf]; omega
                · obtain rfl : m = k := by omega
                  have hlA : Hid ((lvW N M S1 lv m).2 = (stW N M (l + 1)).2) := by exact HLv.out.symm
                  go_wp2
                  go_roundw
                  case rel => exact Lib.hid ⟨l + 1, w7.heap.size, by omega, by go_num, by omega, HNext.out, by rw [HS1.out]; exact O7.out.ext HX4.out, HS7.out, by rw [← hlA.out]; exact HU.out, by rw [← hlA.out]; exact HXX.out, HX4.out.size, X7.out.trans HX4.out⟩
                  case measure => simp [intOf]; omega
            · have HSm := Lib.hid (HDf.out.trans (HSome.out hbe))
              have hbn : 0 < (bsL E F lv m).length := by
                rcases Nat.eq_zero_or_pos (bsL E F lv m).length with h | h
                · exact absurd (List.eq_nil_of_length_eq_zero h) hbe
                · exact h
              have hbn1 : (0 : Int) < ((bsL E F lv m).length : Int) := by omega
              have HR2 : Hid (∀ w', Ext wr w' → FQ (.returned (.tuple #[.slice ab (bsL E F lv m).length cb, .bool true])) w') := fun w' y => HR.out ab cb w' (some (bsL E F lv m)) HSm.out (IB.out.ext y) (X2.out.trans (X2W.out.trans (HX.out.trans (HX2.out.trans y))))
              clear HR hbe hkz HSm
              generalize (bsL E F lv m).length = nb at *
              go_wp2
              exact HR2.out _ (by (repeat (first | exact Ext.refl _ | assumption | refine Ext.alloc ?_ _ | refine Ext.drewN ?_ _ | refine Ext.drew ?_)))
      · obtain rfl : l = 21 := by omega
        have hn : dfF E F N M 21 0 = none := HDf.out
        have HR2 := Lib.hid (fun a' c' w' i x => HR.out a' c' w' none hn i x)
        clear HR hn
        go_wp2
        exact HR2.out _ _ _ ⟨0, 0, fun h => absurd h (by simp), fun i hi => absurd hi (by simp)⟩ (X2.out.trans (X2W.out.trans (HX.out.trans (by (repeat (first | exact Ext.refl _ | assumption | refine Ext.alloc ?_ _ | refine Ext.drewN ?_ _ | refine Ext.drew ?_))))))
end Go.Proofs.YtlaamecfknkmlaaGreat
