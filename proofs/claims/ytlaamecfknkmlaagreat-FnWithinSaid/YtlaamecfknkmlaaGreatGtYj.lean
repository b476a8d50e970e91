/- Merged texts: contracts and plain lemmas (Yj). -/
import Derived.Test.YtlaamecfknkmlaaGreatGt5
import Derived.Test.YtlaamecfknkmlaaGreatGt4
namespace Go.Kt
set_option linter.unusedVariables false
def Kt.kids : Kt → List Kt
  | .leaf _ => []
  | .star a => [a]
  | .two _ a b => [a, b]
theorem kids_words : ∀ t : Kt, t.words = allK t.kids ++ [t.top]
  | .leaf _ => rfl
  | .star a => by simp [Kt.kids, Kt.words, allK, Kt.top]
  | .two s a b => by simp [Kt.kids, Kt.words, allK, Kt.top]
theorem kids_lt : ∀ (t k : Kt), k ∈ t.kids → k.words.length < t.words.length
  | .leaf _, k, h => by cases h
  | .star a, k, h => by simp [Kt.kids] at h; subst h; simp [Kt.words]
  | .two s a b, k, h => by
    simp [Kt.kids] at h
    rcases h with rfl | rfl
    · simp [Kt.words] <;> omega
    · simp [Kt.words] <;> omega
theorem TreeAt.kids {w : World} {g : Nat} : ∀ {t : Kt}, TreeAt w (fun _ => False) t g → ∃ hd c, w.cell? ⟨g, 1, none⟩ = some (.slice hd t.kids.length c) ∧
    ∀ i k, t.kids[i]? = some k → ∃ b gi, hd = some ⟨b, 0, none⟩ ∧ w.cell? ⟨b, i, none⟩ = some (.pointer (some ⟨gi, 0, none⟩)) ∧ TreeAt w (fun _ => False) k gi
  | .leaf _, h => ⟨none, 0, h.2.2, fun i k e => by simp [Kt.kids] at e⟩
  | .star a, h => by
    obtain ⟨-, c0, b, c, ga, c1, -, c2, hta⟩ := h
    refine ⟨_, _, c1, fun i k e => ?_⟩
    match i, e with
    | 0, e => simp [Kt.kids] at e; subst e; exact ⟨b, ga, rfl, c2, hta⟩
    | i + 1, e => simp [Kt.kids] at e
  | .two s a b, h => by
    obtain ⟨-, c0, b, c, ga, gb, c1, -, c2, c3, hta, htb⟩ := h
    refine ⟨_, _, c1, fun i k e => ?_⟩
    match i, e with
    | 0, e => simp [Kt.kids] at e; subst e; exact ⟨b, ga, rfl, c2, hta⟩
    | 1, e => simp [Kt.kids] at e; subst e; exact ⟨b, gb, rfl, c3, htb⟩
    | i + 2, e => simp [Kt.kids] at e
theorem allK_take {ts : List Kt} {i : Nat} {k : Kt} (h : ts[i]? = some k) : allK (ts.take (i + 1)) = allK (ts.take i) ++ k.words := by
  rw [List.take_add_one, h, allK_append]
  simp [allK]
theorem allK_take_le (ts : List Kt) (i : Nat) : (allK (ts.take i)).length ≤ (allK ts).length := by
  have : allK ts = allK (ts.take i) ++ allK (ts.drop i) := by rw [← allK_append, List.take_append_drop]
  rw [this, List.length_append]; omega
end Go.Kt
namespace Go.Proofs.YtlaamecfknkmlaaGreat
set_option linter.unusedVariables false
open Go.RowKit Go.Kt

set_option maxRecDepth 100000 in
theorem ordered_c {X : Nat → Prop} (a : Option Addr) (cap : Nat) (ll : List (List Int)) (B : Nat) (w : World) (h : OwnLs w B (Ek.mk 3 X) 23 (.slice a ll.length cap) ll) (hn : ll.length ≤ 4194304) (hf : ∀ x, x ∈ ll → x.length ≤ 4194304) :
    Calls Tryz.prog 71 #[.slice a ll.length cap] w (RetCp w B (Ek.mk 3 X) 23 (.slice a ll.length cap) (ordL ll)) := by
  have hrow : ∀ (mm : List (List Int)), (∀ x, x ∈ mm ↔ x ∈ ll) → ∀ i, i < mm.length → (rowI mm i).length ≤ 4611686018427387904 := fun mm hm i hi => by
    rw [rowI_getElem _ _ hi]
    have := hf _ ((hm _).1 (List.getElem_mem hi)); omega
  have CS := Lib.hid (sort_c a cap ll B w h hn (hrow ll fun _ => Iff.rfl))
  have CC : Hid (∀ w' mm, OwnLs w' B (Ek.mk 3 X) 23 (.slice a ll.length cap) mm → mm.length = ll.length → (∀ x, x ∈ mm ↔ x ∈ ll) →
      Calls Tryz.prog 132 #[.slice a ll.length cap, .func (.func 133) #[] #[]] w' (RetCp w' B (Ek.mk 3 X) 23 (.slice a ll.length cap) (dedup mm))) := fun w' mm om hl hm => by
    rw [← hl] at om ⊢
    exact compact_c a cap mm B w' om (by omega) (hrow mm hm)
  clear h hf hrow
  generalize hnn : ll.length = n at *
  have HN := Lib.hid hnn
  clear hnn
  go_enter Tryz.func71, Tryz.ntmps71
  go_wp2_with (go_at_call 130; refine CS.out.mono ?_; rintro e w1 ⟨rfl, mm, om, hlm, hmm, hs, hg⟩)
  have C2 := Lib.hid (CC.out w1 mm om (hlm.trans HN.out) hmm)
  have HD : Hid (dedup mm = ordL ll) := dedup_eq hs hmm
  have HG := Lib.hid hg
  clear om hlm hmm hs hg CC CS
  go_wp2_with (go_at_call 132; refine C2.out.mono ?_; rintro e w2 ⟨v', rfl, o2, g2⟩)
  go_ret
  exact ⟨v', rfl, by rw [← HD.out]; exact o2, grown_trans HG.out g2⟩

set_option maxRecDepth 100000 in
set_option maxHeartbeats 1000000 in
theorem steps_n : ∀ (n : Nat) (t : Kt), t.words.length ≤ n → n ≤ 4096 → ∀ (g : Nat) (w : World), TreeAt w (fun _ => False) t g →
      Calls Tryz.prog 111 #[.pointer (some ⟨g, 0, none⟩)] w (RetI 3 w t.words)
  | 0, t, h, _, g, w, _ => by have := t.words_pos; omega
  | n + 1, t, h, hb, g, w, ht => by
    have c0 := ht.top
    obtain ⟨hd, c, c1, hk⟩ := ht.kids
    have zg := lt_of_cell c0
    have HK := Lib.hid hk
    have C0 := Lib.hid c0
    have HW : Hid (t.words = allK t.kids ++ [t.top]) := kids_words t
    have ih : Hid (∀ (i : Nat) (k : Kt), t.kids[i]? = some k → ∀ gi w', TreeAt w' (fun _ => False) k gi → Calls Tryz.prog 111 #[.pointer (some ⟨gi, 0, none⟩)] w' (RetI 3 w' k.words)) := fun i k e gi w' hw' =>
      steps_n n k (by have := kids_lt t k (List.mem_of_getElem? e); omega) (by omega) gi w' hw'
    have hLa : (allK t.kids).length ≤ 4096 := by have := HW.out; rw [this] at h; simp at h; omega
    have HLk : Hid (∀ i, (allK (t.kids.take i)).length ≤ 4096) := fun i => Nat.le_trans (allK_take_le _ _) hLa
    have HLw : Hid (∀ (i : Nat) (k : Kt), t.kids[i]? = some k → k.words.length ≤ 4096) := fun i k e => by have := kids_lt t k (List.mem_of_getElem? e); omega
    have hn2 : t.kids.length ≤ 2 := by cases t <;> simp [Kt.kids]
    obtain ⟨m, hm⟩ : ∃ m, m = t.kids.length := ⟨_, rfl⟩
    have HM := Lib.hid hm
    rw [← hm] at c1 hn2
    have HLa := Lib.hid hLa
    clear ht hk hm h hLa c0
    generalize t.top = y at *
    have c0 := C0.out
    go_enter Tryz.func111, Tryz.ntmps111
    go_wp2
    go_loopw [3, 11] (fun v i wr => Hid (∃ k : Nat, k ≤ m ∧ i = .int .i64 k ∧ OwnI wr w.heap.size 3 v (allK (t.kids.take k)) ∧ Ext w wr)) (fun _ i _ => m - (intOf i).toNat)
    case atStart => exact Lib.hid ⟨0, Nat.zero_le _, rfl, OwnI.nil _ _ _, by (repeat (first | exact Ext.refl _ | assumption | refine Ext.alloc ?_ _ | refine Ext.drewN ?_ _ | refine Ext.drew ?_))⟩
    case round =>
      obtain ⟨k, hkm, rfl, ho, hx⟩ := hrel.out
      clear hrel
      have HO := Lib.hid ho
      have HX := Lib.hid hx
      have hz := hx.size
      obtain ⟨av, cv, rfl, -⟩ := ho.shape
      by_cases hlt : k < m
      · have hkk : k < t.kids.length := by rw [← HM.out]; exact hlt
        obtain ⟨u, hu⟩ : ∃ u, t.kids[k]? = some u := ⟨_, List.getElem?_eq_getElem hkk⟩
        obtain ⟨b, gi, rfl, c2, hti⟩ := HK.out k u hu
        have zb := lt_of_cell c2
        have c2' := hx.cell' c2 zb
        have CI : Hid (∀ w', Ext w w' → Calls Tryz.prog 111 #[.pointer (some ⟨gi, 0, none⟩)] w' (RetI 3 w' u.words)) := fun w' e => ih.out k u hu gi w' (hti.ext e)
        have HN : Hid (allK (t.kids.take (k + 1)) = allK (t.kids.take k) ++ u.words) := allK_take hu
        have hl1 := HLk.out k
        have hl2 := HLw.out k u hu
        clear hti hu ho hx c2 hkk ih
        generalize hla : allK (t.kids.take k) = la at *
        generalize hlu : u.words = lu at *
        clear hla hlu
        go_wp2_with fail
        refine (CI.out _ HX.out).mono ?_
        rintro e w1 ⟨v1, rfl, o1, x1⟩
        obtain ⟨a1, c1', rfl, -⟩ := o1.shape
        have HO1 := Lib.hid (HO.out.ext x1)
        have HX1 := Lib.hid (HX.out.trans x1)
        have HR1 := Lib.hid o1.ints
        have hz1 := HX1.out.size
        clear o1 x1
        go_wp2_with (at_builtin; refine any_append_ints (by rfl) _ _ _ rfl (w.heap.size) 3 Tryz.underlying23 infoInt _ (la) rfl (HO1.out) _ _ (lu) rfl (HR1.out) (by first | omega | (simp; omega)) (by first | omega | (simp; done) | (simp; omega)) ?_)
        intro v7 w7 o7 g7
        have hx7 := Lib.hid (OwnI.grown HO1.out HX1.out g7)
        rw [← HN.out] at o7
        have HO7 := Lib.hid o7
        clear o7 g7
        go_wp2
        go_roundw
        case rel => exact Lib.hid ⟨k + 1, by omega, by go_num, HO7.out, hx7.out⟩
        case measure => simp [intOf]; omega
      · obtain rfl : k = m := by omega
        have e : t.kids.take k = t.kids := by rw [HM.out, List.take_length]
        rw [e] at ho HO ⊢
        have c0' := hx.cell' c0 zg
        have hl1 := HLa.out
        clear ho hx ih HK HLk HLw e
        generalize hla : allK t.kids = la at *
        go_wp2_with (at_builtin; refine any_append_ints (by rfl) _ _ _ rfl (w.heap.size) 3 Tryz.underlying23 infoInt _ (la) rfl (HO.out.ext (by (repeat (first | exact Ext.refl _ | assumption | refine Ext.alloc ?_ _ | refine Ext.drewN ?_ _ | refine Ext.drew ?_)))) _ _ ([y]) rfl (by first | exact (OwnI.lit1 _ _ _ _ (Nat.le_refl _)).ints | exact ((OwnI.lit1 _ _ _ _ (Nat.le_refl _)).ints).ext (by (repeat (first | exact Ext.refl _ | assumption | refine Ext.alloc ?_ _ | refine Ext.drewN ?_ _ | refine Ext.drew ?_)))) (by first | omega | (simp; omega)) (by first | omega | (simp; done) | (simp; omega)) ?_)
        intro v7 w7 o7 g7
        have hx7 := Lib.hid (OwnI.grown (HO.out.ext (by (repeat (first | exact Ext.refl _ | assumption | refine Ext.alloc ?_ _ | refine Ext.drewN ?_ _ | refine Ext.drew ?_)))) (HX.out.trans (by (repeat (first | exact Ext.refl _ | assumption | refine Ext.alloc ?_ _ | refine Ext.drewN ?_ _ | refine Ext.drew ?_)))) g7)
        rw [← HW.out] at o7
        have HO7 := Lib.hid o7
        clear o7 g7
        go_wp2
        go_ret
        exact ⟨v7, rfl, HO7.out, hx7.out⟩
theorem steps_c (t : Kt) (h : t.words.length ≤ 4096) (g : Nat) (w : World) (ht : TreeAt w (fun _ => False) t g) :
    Calls Tryz.prog 111 #[.pointer (some ⟨g, 0, none⟩)] w (RetI 3 w t.words) := steps_n 4096 t h (Nat.le_refl _) g w ht

set_option maxRecDepth 100000 in
theorem behind_c (a b : Option Addr) (c d : Nat) (l m : List Int) (w : World) (hl : IntsAt w a l) (hm : IntsAt w b m) (h1 : 0 < l.length) (h2 : 0 < m.length) (h3 : l.length ≤ 8192) (h4 : m.length ≤ 8192) :
    Calls Tryz.prog 129 #[.slice a l.length c, .slice b m.length d] w (RetI 3 w (behindL l m)) := by
  have HL := Lib.hid hl
  have HM := Lib.hid hm
  obtain ⟨g, off, k1, k2⟩ := hl
  obtain ⟨rfl, hg⟩ := k1 h1
  have d0 := k2 0 h1
  rw [Nat.add_zero] at d0
  have CL : Hid (Calls Tryz.prog 135 #[.slice (some ⟨g, off, none⟩) l.length c] w (RetI 3 w l)) := cloneI_c _ c l w HL.out h1 (by omega)
  have CM : Hid (Calls Tryz.prog 135 #[.slice b m.length d] w (RetI 3 w m)) := cloneI_c _ d m w HM.out h2 (by omega)
  clear k1 k2 hm
  by_cases hone : l = [15]
  · have HB : Hid (behindL l m = m) := by unfold Hid behindL; rw [if_pos hone]
    subst hone
    replace d0 : w.cell? ⟨g, off, none⟩ = some (.int .i64 15) := d0
    have hl1 : ([15] : List Int).length = 1 := rfl
    rw [hl1] at CL ⊢
    clear HL h1 h3
    go_enter Tryz.func129, Tryz.ntmps129
    go_wp2_with (go_at_call 135; refine CM.out.mono ?_; rintro e w1 ⟨v1, rfl, o1, x1⟩)
    go_ret
    exact ⟨v1, rfl, by rw [HB.out]; exact o1, x1⟩
  · have HB : Hid (behindL l m = l ++ m ++ [19]) := by unfold Hid behindL; rw [if_neg hone]
    have hx : l.length = 1 → nth l 0 ≠ 15 := fun h e => hone (by
      match l, h with
      | [x], _ => have : x = 15 := e; rw [this])
    have fin : ∀ (v1 : Value) (w1 : World), OwnI w1 w.heap.size 3 v1 l → Ext w w1 → True := fun _ _ _ _ => trivial
    by_cases hl1 : l.length = 1
    · have hne : (nth l 0 == 15) = false := by have := hx hl1; simp; exact this
      have hl1i : ((l.length : Nat) : Int) = 1 := by omega
      clear hx hone fin
      generalize nth l 0 = x at *
      rw [hl1] at CL ⊢
      go_enter Tryz.func129, Tryz.ntmps129
      go_wp2_with fail
      refine CL.out.mono ?_
      rintro e w1 ⟨v1, rfl, o1, x1⟩
      obtain ⟨a1, c1, rfl, -⟩ := o1.shape
      rw [hl1] at o1 ⊢
      have O1 := Lib.hid o1
      have X1 := Lib.hid x1
      have M1 := Lib.hid (HM.out.ext x1)
      have hz := x1.size
      clear o1 x1
      go_wp2_with (at_builtin; refine any_append_ints (by rfl) _ _ _ rfl (w.heap.size) 3 Tryz.underlying23 infoInt _ (l) rfl (O1.out) _ _ (m) rfl (M1.out) (by first | omega | (simp; omega)) (by first | omega | (simp; done) | (simp; omega)) ?_)
      intro v2 w2 o2 g2
      have X2 := Lib.hid (OwnI.grown O1.out X1.out g2)
      have hz2 := X2.out.size
      obtain ⟨a2, c2, rfl, -⟩ := o2.shape
      rw [List.length_append, hl1] at o2
      try rw [List.length_append, hl1]
      have O2 := Lib.hid o2
      clear o2 g2
      go_wp2_with (at_builtin; refine any_append_ints (by rfl) _ _ _ rfl (w.heap.size) 3 Tryz.underlying23 infoInt _ (l ++ m) rfl (O2.out.ext (by (repeat (first | exact Ext.refl _ | assumption | refine Ext.alloc ?_ _ | refine Ext.drewN ?_ _ | refine Ext.drew ?_)))) _ _ ([19]) rfl (by first | exact (OwnI.lit1 _ _ _ _ (Nat.le_refl _)).ints | exact ((OwnI.lit1 _ _ _ _ (Nat.le_refl _)).ints).ext (by (repeat (first | exact Ext.refl _ | assumption | refine Ext.alloc ?_ _ | refine Ext.drewN ?_ _ | refine Ext.drew ?_)))) (by first | omega | (simp; omega)) (by first | omega | (simp; done) | (simp; omega)) ?_)
      intro v3 w3 o3 g3
      have X3 := Lib.hid (OwnI.grown (O2.out.ext (by (repeat (first | exact Ext.refl _ | assumption | refine Ext.alloc ?_ _ | refine Ext.drewN ?_ _ | refine Ext.drew ?_)))) (X2.out.trans (by (repeat (first | exact Ext.refl _ | assumption | refine Ext.alloc ?_ _ | refine Ext.drewN ?_ _ | refine Ext.drew ?_)))) g3)
      rw [← List.append_assoc, ← HB.out] at o3
      have O3 := Lib.hid o3
      clear o3 g3
      go_wp2
      go_ret
      exact ⟨v3, rfl, O3.out, X3.out⟩
    · have hl1i : (((l.length : Nat) : Int) == 1) = false := by simp; omega
      clear hx hone fin
      go_enter Tryz.func129, Tryz.ntmps129
      go_wp2_with fail
      refine CL.out.mono ?_
      rintro e w1 ⟨v1, rfl, o1, x1⟩
      obtain ⟨a1, c1, rfl, -⟩ := o1.shape
      have O1 := Lib.hid o1
      have X1 := Lib.hid x1
      have M1 := Lib.hid (HM.out.ext x1)
      have hz := x1.size
      clear o1 x1
      go_wp2_with (at_builtin; refine any_append_ints (by rfl) _ _ _ rfl (w.heap.size) 3 Tryz.underlying23 infoInt _ (l) rfl (O1.out) _ _ (m) rfl (M1.out) (by first | omega | (simp; omega)) (by first | omega | (simp; done) | (simp; omega)) ?_)
      intro v2 w2 o2 g2
      have X2 := Lib.hid (OwnI.grown O1.out X1.out g2)
      have hz2 := X2.out.size
      obtain ⟨a2, c2, rfl, -⟩ := o2.shape
      rw [List.length_append] at o2
      try rw [List.length_append]
      have O2 := Lib.hid o2
      clear o2 g2
      go_wp2_with (at_builtin; refine any_append_ints (by rfl) _ _ _ rfl (w.heap.size) 3 Tryz.underlying23 infoInt _ (l ++ m) rfl (O2.out.ext (by (repeat (first | exact Ext.refl _ | assumption | refine Ext.alloc ?_ _ | refine Ext.drewN ?_ _ | refine Ext.drew ?_)))) _ _ ([19]) rfl (by first | exact (OwnI.lit1 _ _ _ _ (Nat.le_refl _)).ints | exact ((OwnI.lit1 _ _ _ _ (Nat.le_refl _)).ints).ext (by (repeat (first | exact Ext.refl _ | assumption | refine Ext.alloc ?_ _ | refine Ext.drewN ?_ _ | refine Ext.drew ?_)))) (by first | omega | (simp; omega)) (by first | omega | (simp; done) | (simp; omega)) ?_)
      intro v3 w3 o3 g3
      have X3 := Lib.hid (OwnI.grown (O2.out.ext (by (repeat (first | exact Ext.refl _ | assumption | refine Ext.alloc ?_ _ | refine Ext.drewN ?_ _ | refine Ext.drew ?_)))) (X2.out.trans (by (repeat (first | exact Ext.refl _ | assumption | refine Ext.alloc ?_ _ | refine Ext.drewN ?_ _ | refine Ext.drew ?_)))) g3)
      rw [← List.append_assoc, ← HB.out] at o3
      have O3 := Lib.hid o3
      clear o3 g3
      go_wp2
      go_ret
      exact ⟨v3, rfl, O3.out, X3.out⟩
end Go.Proofs.YtlaamecfknkmlaaGreat
