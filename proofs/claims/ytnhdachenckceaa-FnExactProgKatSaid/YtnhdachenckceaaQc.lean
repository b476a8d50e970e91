/- Contracts: the expression of a program: the methods, and the reference. -/
import Derived.Test.YtnhdachenckceaaQb
namespace Go.Proofs.Ytnhdachenckceaa
set_option linter.unusedVariables false
open Go.RowKit Go.Kt

set_option maxRecDepth 100000 in
set_option maxHeartbeats 1000000 in
theorem katI_c : ∀ (t : Pt), t.Good → ∀ (w : World), Calls Try.prog (katF t) #[ptV t] w (RetK w t.kat)
  | .one x, hg, w => by
    show Calls Try.prog 96 #[.agg #[.int .i64 x]] w _
    have hR : Hid (fitL (Pt.kat (.one x)).words = [x] ∧ fitB (Pt.kat (.one x)).words = true) := ⟨rfl, rfl⟩
    clear hg
    go_enter Try.func96, Try.ntmps96
    go_wp2
    go_ret2
    exact ⟨.slice (some ⟨w.heap.size + 1, 0, none⟩) 1 1, by rw [hR.out.2]; rfl, by rw [hR.out.1]; have h := OwnI.lit1 (w.alloc (.cells #[.int .i64 x] 73)) w.heap.size 3 x (by simp); rw [World.size_alloc] at h; exact h, by (repeat (first | exact Ext.refl _ | assumption | refine Ext.alloc ?_ _ | refine Ext.drewN ?_ _ | refine Ext.drew ?_))⟩
  | .loop t a, hg, w => by
    show Calls Try.prog 114 #[.agg #[.int .i64 t, pv a]] w _
    have iha := Lib.hid (katI_c a hg.2)
    have ht0 := hg.1.1
    have ht1 := hg.1.2
    have hgk := Lib.hid (a.kat_good hg.2)
    have h1 := katF_meth a
    have h2 := katF_call a
    have HLn : Hid ((Pt.kat (.loop t a)).words.length = a.kat.words.length + 5) := by
      unfold Hid; simp only [Pt.kat]; rw [len_two, len_star, len_two, len_leaf, len_leaf]; omega
    rw [pv_eq a]
    clear hg
    generalize ptT a = T at *
    generalize ptV a = V at *
    generalize katF a = F at *
    go_enter Try.func114, Try.ntmps114
    go_wp2_with fail
    refine (iha.out _).mono ?_
    intro e w1 hr
    by_cases f1 : a.kat.words.length ≤ 40
    · obtain ⟨v1, rfl, o1, y⟩ := RetFit.yes hr f1
      have hx1 := Lib.hid (Ext.trans (show Ext w _ by (repeat (first | exact Ext.refl _ | assumption | refine Ext.alloc ?_ _ | refine Ext.drewN ?_ _ | refine Ext.drew ?_))) y)
      have k0 := Ext.cell' (b := w.heap.size) (o := 0) y (v := .int .i64 t) (by simp) (by simp)
      obtain ⟨a1, c1, rfl, -⟩ := o1.shape
      have hz1 := hx1.out.size
      have O1 := Lib.hid o1
      have C2 : Hid (∀ w', Ext w1 w' → Calls Try.prog 116 #[.int .i64 t, .slice a1 a.kat.words.length c1] w' (RetK w' (Pt.kat (.loop t a)))) := fun w' hx => iKatWhile_c t a1 c1 a.kat w' ht0 ht1 (O1.out.ints.ext hx) hgk.out f1
      clear hr o1 y
      generalize a.kat.words.length = n1 at *
      go_wp2_with fail
      refine (C2.out _ (by (repeat (first | exact Ext.refl _ | assumption | refine Ext.alloc ?_ _ | refine Ext.drewN ?_ _ | refine Ext.drew ?_)))).mono ?_
      rintro e w3 ⟨v3, rfl, o3, y⟩
      have hx3 := Lib.hid (hx1.out.trans (Ext.trans (show Ext w1 _ by (repeat (first | exact Ext.refl _ | assumption | refine Ext.alloc ?_ _ | refine Ext.drewN ?_ _ | refine Ext.drew ?_))) y))
      have O3 := Lib.hid (o3.mono (B' := w.heap.size) (by first | omega | (simp; omega)))
      clear o3 y C2
      go_wp2
      go_ret2
      exact ⟨_, rfl, O3.out.ext (by (repeat (first | exact Ext.refl _ | assumption | refine Ext.alloc ?_ _ | refine Ext.drewN ?_ _ | refine Ext.drew ?_))), hx3.out.trans (by (repeat (first | exact Ext.refl _ | assumption | refine Ext.alloc ?_ _ | refine Ext.drewN ?_ _ | refine Ext.drew ?_)))⟩
    · obtain ⟨v1, rfl, o1, y⟩ := RetFit.no hr f1
      have hx1 := Lib.hid (Ext.trans (show Ext w _ by (repeat (first | exact Ext.refl _ | assumption | refine Ext.alloc ?_ _ | refine Ext.drewN ?_ _ | refine Ext.drew ?_))) y)
      clear hr o1 y
      go_wp2
      go_ret2
      exact RetFit.nay (by rw [HLn.out]; omega) (hx1.out.trans (by (repeat (first | exact Ext.refl _ | assumption | refine Ext.alloc ?_ _ | refine Ext.drewN ?_ _ | refine Ext.drew ?_))))
  | .seq a c, hg, w => by
    show Calls Try.prog 99 #[.agg #[pv a, pv c]] w _
    have C1 : Hid (∀ w', Calls Try.prog 101 #[pv a, pv c] w' (Ret2 w' a.kat c.kat)) := fun w' => two_c a c (katI_c a hg.1) (katI_c c hg.2) w'
    have hga := Lib.hid (a.kat_good hg.1)
    have hgc := Lib.hid (c.kat_good hg.2)
    have HLn : Hid ((Pt.kat (.seq a c)).words.length = a.kat.words.length + c.kat.words.length + 1) := by
      unfold Hid; simp only [Pt.kat]; rw [len_two]
    clear hg
    generalize pv a = Va at *
    generalize pv c = Vc at *
    go_enter Try.func99, Try.ntmps99
    go_wp2_with fail
    refine (C1.out _).mono ?_
    rintro e w1 ⟨v1, v2, rfl, hok, y⟩
    have hx1 := Lib.hid (Ext.trans (show Ext w _ by (repeat (first | exact Ext.refl _ | assumption | refine Ext.alloc ?_ _ | refine Ext.drewN ?_ _ | refine Ext.drew ?_))) y)
    have hz1 := hx1.out.size
    clear y
    by_cases f : a.kat.words.length ≤ 40 ∧ c.kat.words.length ≤ 40
    · obtain ⟨o1, o2⟩ := hok f.1 f.2
      obtain ⟨a1, c1, rfl, -⟩ := o1.shape
      obtain ⟨a2, c2, rfl, -⟩ := o2.shape
      have C2 : Hid (∀ w', Ext w1 w' → Calls Try.prog 102 #[.slice a1 a.kat.words.length c1, .slice a2 c.kat.words.length c2] w' (RetK w' (Pt.kat (.seq a c)))) := fun w' hx => iKatThen_c a1 a2 c1 c2 a.kat c.kat w' (o1.ints.ext hx) (o2.ints.ext hx) hga.out hgc.out f.1 f.2
      rw [decide_eq_true f]
      clear hok o1 o2 f
      generalize a.kat.words.length = n1 at *
      generalize c.kat.words.length = n2 at *
      go_wp2_with fail
      refine (C2.out _ (by (repeat (first | exact Ext.refl _ | assumption | refine Ext.alloc ?_ _ | refine Ext.drewN ?_ _ | refine Ext.drew ?_)))).mono ?_
      rintro e w3 ⟨v3, rfl, o3, y⟩
      have hx3 := Lib.hid (hx1.out.trans (Ext.trans (show Ext w1 _ by (repeat (first | exact Ext.refl _ | assumption | refine Ext.alloc ?_ _ | refine Ext.drewN ?_ _ | refine Ext.drew ?_))) y))
      have O3 := Lib.hid (o3.mono (B' := w.heap.size) (by first | omega | (simp; omega)))
      clear o3 y C2
      go_wp2
      go_ret2
      exact ⟨_, rfl, O3.out.ext (by (repeat (first | exact Ext.refl _ | assumption | refine Ext.alloc ?_ _ | refine Ext.drewN ?_ _ | refine Ext.drew ?_))), hx3.out.trans (by (repeat (first | exact Ext.refl _ | assumption | refine Ext.alloc ?_ _ | refine Ext.drewN ?_ _ | refine Ext.drew ?_)))⟩
    · rw [decide_eq_false f]
      have F := Lib.hid f
      clear hok f
      go_wp2
      go_ret2
      exact RetFit.nay (by rw [HLn.out]; have := F.out; omega) (hx1.out.trans (by (repeat (first | exact Ext.refl _ | assumption | refine Ext.alloc ?_ _ | refine Ext.drewN ?_ _ | refine Ext.drew ?_))))
  | .ifs t a c, hg, w => by
    show Calls Try.prog 107 #[.agg #[.int .i64 t, pv a, pv c]] w _
    have C1 : Hid (∀ w', Calls Try.prog 101 #[pv a, pv c] w' (Ret2 w' a.kat c.kat)) := fun w' => two_c a c (katI_c a hg.2.1) (katI_c c hg.2.2) w'
    have ht0 := hg.1.1
    have ht1 := hg.1.2
    have hga := Lib.hid (a.kat_good hg.2.1)
    have hgc := Lib.hid (c.kat_good hg.2.2)
    have HLn : Hid ((Pt.kat (.ifs t a c)).words.length = a.kat.words.length + c.kat.words.length + 5) := by
      unfold Hid; simp only [Pt.kat]; rw [len_two, len_two, len_two, len_leaf, len_leaf]; omega
    clear hg
    generalize pv a = Va at *
    generalize pv c = Vc at *
    go_enter Try.func107, Try.ntmps107
    go_wp2_with fail
    refine (C1.out _).mono ?_
    rintro e w1 ⟨v1, v2, rfl, hok, y⟩
    have hx1 := Lib.hid (Ext.trans (show Ext w _ by (repeat (first | exact Ext.refl _ | assumption | refine Ext.alloc ?_ _ | refine Ext.drewN ?_ _ | refine Ext.drew ?_))) y)
    have k0 := Ext.cell' (b := w.heap.size) (o := 0) y (v := .int .i64 t) (by simp) (by simp)
    have hz1 := hx1.out.size
    clear y
    by_cases f : a.kat.words.length ≤ 40 ∧ c.kat.words.length ≤ 40
    · obtain ⟨o1, o2⟩ := hok f.1 f.2
      obtain ⟨a1, c1, rfl, -⟩ := o1.shape
      obtain ⟨a2, c2, rfl, -⟩ := o2.shape
      have C2 : Hid (∀ w', Ext w1 w' → Calls Try.prog 109 #[.int .i64 t, .slice a1 a.kat.words.length c1, .slice a2 c.kat.words.length c2] w' (RetK w' (Pt.kat (.ifs t a c)))) := fun w' hx => iKatIf_c t a1 a2 c1 c2 a.kat c.kat w' ht0 ht1 (o1.ints.ext hx) (o2.ints.ext hx) hga.out hgc.out f.1 f.2
      rw [decide_eq_true f]
      clear hok o1 o2 f
      generalize a.kat.words.length = n1 at *
      generalize c.kat.words.length = n2 at *
      go_wp2_with fail
      refine (C2.out _ (by (repeat (first | exact Ext.refl _ | assumption | refine Ext.alloc ?_ _ | refine Ext.drewN ?_ _ | refine Ext.drew ?_)))).mono ?_
      rintro e w3 ⟨v3, rfl, o3, y⟩
      have hx3 := Lib.hid (hx1.out.trans (Ext.trans (show Ext w1 _ by (repeat (first | exact Ext.refl _ | assumption | refine Ext.alloc ?_ _ | refine Ext.drewN ?_ _ | refine Ext.drew ?_))) y))
      have O3 := Lib.hid (o3.mono (B' := w.heap.size) (by first | omega | (simp; omega)))
      clear o3 y C2
      go_wp2
      go_ret2
      exact ⟨_, rfl, O3.out.ext (by (repeat (first | exact Ext.refl _ | assumption | refine Ext.alloc ?_ _ | refine Ext.drewN ?_ _ | refine Ext.drew ?_))), hx3.out.trans (by (repeat (first | exact Ext.refl _ | assumption | refine Ext.alloc ?_ _ | refine Ext.drewN ?_ _ | refine Ext.drew ?_)))⟩
    · rw [decide_eq_false f]
      have F := Lib.hid f
      clear hok f
      go_wp2
      go_ret2
      exact RetFit.nay (by rw [HLn.out]; have := F.out; omega) (hx1.out.trans (by (repeat (first | exact Ext.refl _ | assumption | refine Ext.alloc ?_ _ | refine Ext.drewN ?_ _ | refine Ext.drew ?_))))
/-- One slice read on: the next call's world. -/
theorem words_le16 {t : Pt} (h : t.words.length ≤ 16) : t.kat.words.length ≤ 80 := by have := t.kat_le; omega
set_option maxRecDepth 100000 in
set_option maxHeartbeats 1000000 in
theorem l8Kat_c : ∀ (t : Pt), t.Good → ∀ (b off cap : Nat) (w : World), IntsAt w (some ⟨b, off, none⟩) t.words → t.words.length ≤ cap → t.words.length ≤ 16 →
    Calls Try.prog 68 #[.slice (some ⟨b, off, none⟩) t.words.length cap] w (RetI 3 w t.kat.words)
  | .one x, hg, b, off, cap, w, hl, hcap, h16 => by
    have hc := (IntsAt.at_ (xs := []) (ys := []) hl).1
    have hg : x = 15 ∨ (16 ≤ x ∧ x ≤ 18) := hg
    simp only [Pt.words, List.length_nil, Nat.add_zero, List.length_cons, Nat.zero_add] at hc hcap ⊢
    have e2 : x ≤ 18 := by omega
    clear hl hg
    go_enter Try.func68, Try.ntmps68
    go_wp2
    go_ret
    exact ⟨_, rfl, OwnI.lit1 _ _ _ _ (Nat.le_refl _), by (repeat (first | exact Ext.refl _ | assumption | refine Ext.alloc ?_ _ | refine Ext.drewN ?_ _ | refine Ext.drew ?_))⟩
  | .loop t a, hg, b, off, cap, w, hl, hcap, h16 => by
    have ih := Lib.hid (l8Kat_c a hg.2)
    have hc := (IntsAt.at_ (xs := a.words) (ys := []) hl).1
    have hla := IntsAt.left (xs := a.words) hl
    have hlen : (Pt.loop t a).words.length = a.words.length + 1 := by simp [Pt.words]
    have ht0 := hg.1.1
    have ht1 := hg.1.2
    have hk80 : a.kat.words.length ≤ 80 := words_le16 (by rw [hlen] at h16; omega)
    rw [hlen] at hcap h16 ⊢
    clear hl hg hlen
    obtain ⟨x, hx⟩ : ∃ x : Int, x = 200 + t := ⟨_, rfl⟩
    have HXT : Hid (x - 200 = t) := by unfold Hid; omega
    have hx0 : 0 ≤ x - 200 := by omega
    have hx15 : x - 200 ≤ 15 := by omega
    obtain ⟨q, hq⟩ : ∃ q, q = a.words.length := ⟨_, rfl⟩
    have HLA := Lib.hid hla
    have ih2 : Hid (∀ w', Ext w w' → Calls Try.prog 68 #[.slice (some ⟨b, off, none⟩) q cap] w' (RetI 3 w' a.kat.words)) := fun w' hx => by
      rw [hq]; exact ih.out b off cap w' (HLA.out.ext hx) (by omega) (by omega)
    rw [← hx] at hc
    have e1 : ¬ x ≤ 18 := by omega
    have e2 : x ≥ 200 := by omega
    have e3 : x ≤ 215 := by omega
    rw [← hq] at hc hcap h16 ⊢
    clear hx hq hla ih
    have hw1 : IntKind.i64.wrap ((q : Int) + 1 - 1) = (q : Int) := by rw [IntWalk.i64_in _ (by omega)]; omega
    have hqc : (q : Int) ≤ cap := by omega
    go_enter Try.func68, Try.ntmps68
    go_wp2_with fail
    refine (ih2.out _ (by (repeat (first | exact Ext.refl _ | assumption | refine Ext.alloc ?_ _ | refine Ext.drewN ?_ _ | refine Ext.drew ?_)))).mono ?_
    rintro e w1 ⟨v1, rfl, o1, y⟩
    have hx1 := Lib.hid (Ext.trans (show Ext w _ by (repeat (first | exact Ext.refl _ | assumption | refine Ext.alloc ?_ _ | refine Ext.drewN ?_ _ | refine Ext.drew ?_))) y)
    obtain ⟨a1, c1, rfl, -⟩ := o1.shape
    have O1 := Lib.hid o1
    have hz1 := hx1.out.size
    have T1 : Hid (IntsAt w1 (some ⟨w.heap.size, 0, none⟩) [x - 200]) := ((OwnI.lit1 w w.heap.size 3 (x - 200) (Nat.le_refl _)).ints).ext (Ext.trans (by (repeat (first | exact Ext.refl _ | assumption | refine Ext.alloc ?_ _ | refine Ext.drewN ?_ _ | refine Ext.drew ?_))) y)
    have hR : Hid ((Pt.kat (.loop t a)).words = [x - 200] ++ a.kat.words ++ [19] ++ [21] ++ [15 - (x - 200)] ++ [19]) := by
      unfold Hid; simp only [Pt.kat, Kt.words, HXT.out]
    have J1 : Hid (∀ w', Ext w1 w' → Calls Try.prog 76 #[.slice (some ⟨w.heap.size, 0, none⟩) 1 1, .slice a1 a.kat.words.length c1, .int .i64 19] w' (RetI 3 w' ([x - 200] ++ a.kat.words ++ [19]))) := fun w' hx =>
      l2Join_c (some ⟨w.heap.size, 0, none⟩) a1 1 c1 [x - 200] a.kat.words 19 w' (T1.out.ext hx) (O1.out.ints.ext hx) (by simp) (by omega)
    clear o1 y
    obtain ⟨L2, hL2, hl2⟩ := named ([x - 200] ++ a.kat.words ++ [19])
    have hl2' : L2.length ≤ 100 := by rw [hl2]; simp; omega
    rw [← hL2.out] at J1 hR
    generalize a.kat.words.length = n1 at *
    clear hl2
    go_wp2_with fail
    refine (J1.out _ (by (repeat (first | exact Ext.refl _ | assumption | refine Ext.alloc ?_ _ | refine Ext.drewN ?_ _ | refine Ext.drew ?_)))).mono ?_
    rintro e w2 ⟨v2, rfl, o2, y⟩
    have hx2 := Lib.hid (hx1.out.trans (Ext.trans (show Ext w1 _ by (repeat (first | exact Ext.refl _ | assumption | refine Ext.alloc ?_ _ | refine Ext.drewN ?_ _ | refine Ext.drew ?_))) y))
    obtain ⟨a2, c2, rfl, -⟩ := o2.shape
    have O2 := Lib.hid o2
    have hz2 := hx2.out.size
    clear o2 y J1
    go_wp2_with (at_builtin; refine any_append_ints (by rfl) _ _ _ rfl (w.heap.size) 3 Try.underlying22 infoInt _ (_) rfl ((O2.out.ext (by (repeat (first | exact Ext.refl _ | assumption | refine Ext.alloc ?_ _ | refine Ext.drewN ?_ _ | refine Ext.drew ?_)))).mono (by first | exact hz1 | omega | (simp; done) | (simp; omega))) _ _ ([21]) rfl (by first | exact (OwnI.lit1 _ _ _ _ (Nat.le_refl _)).ints | exact ((OwnI.lit1 _ _ _ _ (Nat.le_refl _)).ints).ext (by (repeat (first | exact Ext.refl _ | assumption | refine Ext.alloc ?_ _ | refine Ext.drewN ?_ _ | refine Ext.drew ?_)))) (by first | omega | (simp; omega)) (by first | omega | (simp; done) | (simp; omega)) ?_)
    intro v3 w3 o3 g3
    have hx3 := Lib.hid (Ext.row (hx2.out.trans (by (repeat (first | exact Ext.refl _ | assumption | refine Ext.alloc ?_ _ | refine Ext.drewN ?_ _ | refine Ext.drew ?_)))) g3 (fun k hk => by have := (World.ownsRow.lt O2.out k hk).1; omega))
    obtain ⟨L3, hL3, hl3⟩ := named (L2 ++ [21])
    rw [List.length_append] at hl3
    have hl3' : L3.length ≤ 101 := by rw [hl3]; simp; omega
    rw [← hL3.out] at o3 hR
    obtain ⟨a3, c3, rfl, -⟩ := o3.shape
    have O3 := Lib.hid o3
    have hz3 := hx3.out.size
    clear o3 g3 hl3
    go_wp2_with fail
    refine (kTestNot_s (x - 200) _ ⟨hx0, hx15⟩).mono ?_
    rintro e w' ⟨rfl, rfl⟩
    have J2 : Hid (∀ w', Ext w3 w' → Calls Try.prog 76 #[.slice a3 L3.length c3, .slice (some ⟨w'.heap.size, 0, none⟩) 1 1, .int .i64 19] (w'.alloc (.cells #[.int .i64 (15 - (x - 200))] 3)) (RetI 3 (w'.alloc (.cells #[.int .i64 (15 - (x - 200))] 3)) (L3 ++ [15 - (x - 200)] ++ [19]))) := fun w' hx =>
      l2Join_c a3 (some ⟨w'.heap.size, 0, none⟩) c3 1 L3 [15 - (x - 200)] 19 _ (O3.out.ints.ext (hx.alloc _)) ((OwnI.lit1 w' w'.heap.size 3 (15 - (x - 200)) (Nat.le_refl _)).ints) (by omega) (by simp)
    go_wp2_with fail
    refine (J2.out _ (by (repeat (first | exact Ext.refl _ | assumption | refine Ext.alloc ?_ _ | refine Ext.drewN ?_ _ | refine Ext.drew ?_)))).mono ?_
    rintro e w4 ⟨v4, rfl, o4, y⟩
    have hx4 := Lib.hid (hx3.out.trans (Ext.trans (show Ext w3 _ by (repeat (first | exact Ext.refl _ | assumption | refine Ext.alloc ?_ _ | refine Ext.drewN ?_ _ | refine Ext.drew ?_))) y))
    have O4 := Lib.hid (o4.mono (B' := w.heap.size) (by first | omega | (simp; omega)))
    clear o4 y J2
    go_wp2
    go_ret
    exact ⟨_, rfl, by rw [hR.out]; exact O4.out.ext (by (repeat (first | exact Ext.refl _ | assumption | refine Ext.alloc ?_ _ | refine Ext.drewN ?_ _ | refine Ext.drew ?_))), hx4.out.trans (by (repeat (first | exact Ext.refl _ | assumption | refine Ext.alloc ?_ _ | refine Ext.drewN ?_ _ | refine Ext.drew ?_)))⟩
  | .seq a c, hg, b, off, cap, w, hl, hcap, h16 => by
    have iha := Lib.hid (l8Kat_c a hg.1)
    have ihc := Lib.hid (l8Kat_c c hg.2)
    have hc := (IntsAt.at_ (xs := a.words ++ c.words) (ys := []) hl).1
    have hla := IntsAt.left (xs := a.words) (IntsAt.left (xs := a.words ++ c.words) hl)
    have hlc := IntsAt.right (xs := a.words) (IntsAt.left (xs := a.words ++ c.words) hl)
    have hlen : (Pt.seq a c).words.length = a.words.length + c.words.length + 1 := by simp [Pt.words]; omega
    have hH : Hid (∀ w', Ext w w' → Calls Try.prog 73 #[.slice (some ⟨b, off, none⟩) (a.words.length + c.words.length + 1) cap] w' fun e w'' => e = .returned (.tuple #[.slice (some ⟨b, off, none⟩) a.words.length cap, .slice (some ⟨b, off + a.words.length, none⟩) c.words.length (cap - a.words.length)]) ∧ w'' = w'.drew) := fun w' hx => by
      rw [← hlen]
      exact l8Halves_c b off cap (Pt.seq a c).words c a.words.length w' (hl.ext hx) hg.2 (SegP.right (xs := a.words) (SegP.left (xs := a.words ++ c.words) (ys := [30]) (fun i _ => by rw [Nat.zero_add]; rfl)) |> fun h => by rwa [Nat.zero_add] at h) (by rw [hlen]) hcap (by omega)
    rw [List.length_append] at hc
    rw [hlen] at hcap h16 ⊢
    have hka : a.kat.words.length ≤ 80 := words_le16 (by omega)
    have hkc : c.kat.words.length ≤ 80 := words_le16 (by omega)
    clear hl hg hlen
    have HLA := Lib.hid hla
    have HLC := Lib.hid hlc
    obtain ⟨q, hq⟩ : ∃ q, q = a.words.length := ⟨_, rfl⟩
    obtain ⟨r, hr⟩ : ∃ r, r = c.words.length := ⟨_, rfl⟩
    have ih2 : Hid (∀ w', Ext w w' → Calls Try.prog 68 #[.slice (some ⟨b, off, none⟩) q cap] w' (RetI 3 w' a.kat.words)) := fun w' hx => by
      rw [hq]; exact iha.out b off cap w' (HLA.out.ext hx) (by omega) (by omega)
    have ih3 : Hid (∀ w', Ext w w' → Calls Try.prog 68 #[.slice (some ⟨b, off + q, none⟩) r (cap - q)] w' (RetI 3 w' c.kat.words)) := fun w' hx => by
      rw [hq, hr]; exact ihc.out b (off + a.words.length) (cap - a.words.length) w' (HLC.out.ext hx) (by omega) (by omega)
    clear hla hlc iha ihc
    rw [← hq, ← hr] at hc hcap h16 hH ⊢
    clear hq hr
    have hw1 : IntKind.i64.wrap ((q : Int) + r + 1 - 1) = (q : Int) + r := by rw [IntWalk.i64_in _ (by omega)]; omega
    have hqc : (q : Int) + r ≤ cap := by omega
    have hrn : ((q : Int) + r).toNat = q + r := by omega
    go_enter Try.func68, Try.ntmps68
    go_wp2_with fail
    refine (hH.out _ (by (repeat (first | exact Ext.refl _ | assumption | refine Ext.alloc ?_ _ | refine Ext.drewN ?_ _ | refine Ext.drew ?_)))).mono ?_
    rintro e w1 ⟨rfl, rfl⟩
    go_wp2_with fail
    refine (ih2.out _ (by (repeat (first | exact Ext.refl _ | assumption | refine Ext.alloc ?_ _ | refine Ext.drewN ?_ _ | refine Ext.drew ?_)))).mono ?_
    rintro e w1 ⟨v1, rfl, o1, y⟩
    have hx1 := Lib.hid (Ext.trans (show Ext w _ by (repeat (first | exact Ext.refl _ | assumption | refine Ext.alloc ?_ _ | refine Ext.drewN ?_ _ | refine Ext.drew ?_))) y)
    obtain ⟨a1, c1, rfl, -⟩ := o1.shape
    have O1 := Lib.hid o1
    have hz1 := hx1.out.size
    clear o1 y
    go_wp2_with fail
    refine (ih3.out _ (by first | exact hx1.out | exact hx1.out.trans (by (repeat (first | exact Ext.refl _ | assumption | refine Ext.alloc ?_ _ | refine Ext.drewN ?_ _ | refine Ext.drew ?_))))).mono ?_
    rintro e w2 ⟨v2, rfl, o2, y⟩
    have hx2 := Lib.hid (hx1.out.trans (Ext.trans (show Ext w1 _ by (repeat (first | exact Ext.refl _ | assumption | refine Ext.alloc ?_ _ | refine Ext.drewN ?_ _ | refine Ext.drew ?_))) y))
    obtain ⟨a2, c2, rfl, -⟩ := o2.shape
    have J1 : Hid (∀ w', Ext w2 w' → Calls Try.prog 76 #[.slice a1 a.kat.words.length c1, .slice a2 c.kat.words.length c2, .int .i64 19] w' (RetI 3 w' (Pt.kat (.seq a c)).words)) := fun w' hx =>
      l2Join_c a1 a2 c1 c2 a.kat.words c.kat.words 19 w' ((O1.out.ints.ext (Ext.trans (show Ext w1 _ by (repeat (first | exact Ext.refl _ | assumption | refine Ext.alloc ?_ _ | refine Ext.drewN ?_ _ | refine Ext.drew ?_))) y)).ext hx) (o2.ints.ext hx) (by omega) (by omega)
    have hz2 := hx2.out.size
    clear o2 y
    generalize a.kat.words.length = n1 at *
    generalize c.kat.words.length = n2 at *
    go_wp2_with fail
    refine (J1.out _ (by (repeat (first | exact Ext.refl _ | assumption | refine Ext.alloc ?_ _ | refine Ext.drewN ?_ _ | refine Ext.drew ?_)))).mono ?_
    rintro e w4 ⟨v4, rfl, o4, y⟩
    have hx4 := Lib.hid (hx2.out.trans (Ext.trans (show Ext w2 _ by (repeat (first | exact Ext.refl _ | assumption | refine Ext.alloc ?_ _ | refine Ext.drewN ?_ _ | refine Ext.drew ?_))) y))
    have O4 := Lib.hid (o4.mono (B' := w.heap.size) (by first | omega | (simp; omega)))
    clear o4 y J1
    go_wp2
    go_ret
    exact ⟨_, rfl, O4.out.ext (by (repeat (first | exact Ext.refl _ | assumption | refine Ext.alloc ?_ _ | refine Ext.drewN ?_ _ | refine Ext.drew ?_))), hx4.out.trans (by (repeat (first | exact Ext.refl _ | assumption | refine Ext.alloc ?_ _ | refine Ext.drewN ?_ _ | refine Ext.drew ?_)))⟩
  | .ifs t a c, hg, b, off, cap, w, hl, hcap, h16 => by
    have iha := Lib.hid (l8Kat_c a hg.2.1)
    have ihc := Lib.hid (l8Kat_c c hg.2.2)
    have hc := (IntsAt.at_ (xs := a.words ++ c.words) (ys := []) hl).1
    have hla := IntsAt.left (xs := a.words) (IntsAt.left (xs := a.words ++ c.words) hl)
    have hlc := IntsAt.right (xs := a.words) (IntsAt.left (xs := a.words ++ c.words) hl)
    have hlen : (Pt.ifs t a c).words.length = a.words.length + c.words.length + 1 := by simp [Pt.words]; omega
    have hH : Hid (∀ w', Ext w w' → Calls Try.prog 73 #[.slice (some ⟨b, off, none⟩) (a.words.length + c.words.length + 1) cap] w' fun e w'' => e = .returned (.tuple #[.slice (some ⟨b, off, none⟩) a.words.length cap, .slice (some ⟨b, off + a.words.length, none⟩) c.words.length (cap - a.words.length)]) ∧ w'' = w'.drew) := fun w' hx => by
      rw [← hlen]
      exact l8Halves_c b off cap (Pt.ifs t a c).words c a.words.length w' (hl.ext hx) hg.2.2 (SegP.right (xs := a.words) (SegP.left (xs := a.words ++ c.words) (ys := [100 + t]) (fun i _ => by rw [Nat.zero_add]; rfl)) |> fun h => by rwa [Nat.zero_add] at h) (by rw [hlen]) hcap (by omega)
    have ht0 := hg.1.1
    have ht1 := hg.1.2
    rw [List.length_append] at hc
    rw [hlen] at hcap h16 ⊢
    have hka : a.kat.words.length ≤ 80 := words_le16 (by omega)
    have hkc : c.kat.words.length ≤ 80 := words_le16 (by omega)
    clear hl hg hlen
    have HLA := Lib.hid hla
    have HLC := Lib.hid hlc
    obtain ⟨q, hq⟩ : ∃ q, q = a.words.length := ⟨_, rfl⟩
    obtain ⟨r, hr⟩ : ∃ r, r = c.words.length := ⟨_, rfl⟩
    have ih2 : Hid (∀ w', Ext w w' → Calls Try.prog 68 #[.slice (some ⟨b, off, none⟩) q cap] w' (RetI 3 w' a.kat.words)) := fun w' hx => by
      rw [hq]; exact iha.out b off cap w' (HLA.out.ext hx) (by omega) (by omega)
    have ih3 : Hid (∀ w', Ext w w' → Calls Try.prog 68 #[.slice (some ⟨b, off + q, none⟩) r (cap - q)] w' (RetI 3 w' c.kat.words)) := fun w' hx => by
      rw [hq, hr]; exact ihc.out b (off + a.words.length) (cap - a.words.length) w' (HLC.out.ext hx) (by omega) (by omega)
    clear hla hlc iha ihc
    rw [← hq, ← hr] at hc hcap h16 hH ⊢
    clear hq hr
    obtain ⟨x, hx⟩ : ∃ x : Int, x = 100 + t := ⟨_, rfl⟩
    have HXT : Hid (x - 100 = t) := by unfold Hid; omega
    have hx1 : 100 ≤ x := by omega
    have hx2 : x ≤ 115 := by omega
    have hx0 : 0 ≤ x - 100 := by omega
    have hx15 : x - 100 ≤ 15 := by omega
    rw [← hx] at hc
    clear hx ht0 ht1
    have e2 : ¬ x ≤ 18 := by omega
    have e3 : ¬ x ≥ 200 := by omega
    have e4 : (x == 30) = false := by simp; omega
    have hw1 : IntKind.i64.wrap ((q : Int) + r + 1 - 1) = (q : Int) + r := by rw [IntWalk.i64_in _ (by omega)]; omega
    have hqc : (q : Int) + r ≤ cap := by omega
    have hrn : ((q : Int) + r).toNat = q + r := by omega
    go_enter Try.func68, Try.ntmps68
    go_wp2_with fail
    refine (hH.out _ (by (repeat (first | exact Ext.refl _ | assumption | refine Ext.alloc ?_ _ | refine Ext.drewN ?_ _ | refine Ext.drew ?_)))).mono ?_
    rintro e w1 ⟨rfl, rfl⟩
    go_wp2_with fail
    refine (ih2.out _ (by (repeat (first | exact Ext.refl _ | assumption | refine Ext.alloc ?_ _ | refine Ext.drewN ?_ _ | refine Ext.drew ?_)))).mono ?_
    rintro e w1 ⟨v1, rfl, o1, y⟩
    have hx1 := Lib.hid (Ext.trans (show Ext w _ by (repeat (first | exact Ext.refl _ | assumption | refine Ext.alloc ?_ _ | refine Ext.drewN ?_ _ | refine Ext.drew ?_))) y)
    obtain ⟨a1, c1, rfl, -⟩ := o1.shape
    have O1 := Lib.hid o1
    have hz1 := hx1.out.size
    have T1 : Hid (IntsAt w1 (some ⟨w.heap.size, 0, none⟩) [x - 100]) := ((OwnI.lit1 w.drew w.heap.size 3 (x - 100) (Nat.le_refl _)).ints).ext (Ext.trans (by (repeat (first | exact Ext.refl _ | assumption | refine Ext.alloc ?_ _ | refine Ext.drewN ?_ _ | refine Ext.drew ?_))) y)
    have hR : Hid ((Pt.kat (.ifs t a c)).words = ([x - 100] ++ a.kat.words ++ [19]) ++ ([15 - (x - 100)] ++ c.kat.words ++ [19]) ++ [20]) := by
      unfold Hid; simp only [Pt.kat, Kt.words, HXT.out]
    have J1 : Hid (∀ w', Ext w1 w' → Calls Try.prog 76 #[.slice (some ⟨w.heap.size, 0, none⟩) 1 1, .slice a1 a.kat.words.length c1, .int .i64 19] w' (RetI 3 w' ([x - 100] ++ a.kat.words ++ [19]))) := fun w' hx =>
      l2Join_c (some ⟨w.heap.size, 0, none⟩) a1 1 c1 [x - 100] a.kat.words 19 w' (T1.out.ext hx) (O1.out.ints.ext hx) (by simp) (by omega)
    clear o1 y
    obtain ⟨L2, hL2, hl2⟩ := named ([x - 100] ++ a.kat.words ++ [19])
    have hl2' : L2.length ≤ 100 := by rw [hl2]; simp; omega
    rw [← hL2.out] at J1 hR
    generalize a.kat.words.length = n1 at *
    clear hl2
    go_wp2_with fail
    refine (J1.out _ (by (repeat (first | exact Ext.refl _ | assumption | refine Ext.alloc ?_ _ | refine Ext.drewN ?_ _ | refine Ext.drew ?_)))).mono ?_
    rintro e w2 ⟨v2, rfl, o2, y⟩
    have hx2 := Lib.hid (hx1.out.trans (Ext.trans (show Ext w1 _ by (repeat (first | exact Ext.refl _ | assumption | refine Ext.alloc ?_ _ | refine Ext.drewN ?_ _ | refine Ext.drew ?_))) y))
    obtain ⟨a2, c2, rfl, -⟩ := o2.shape
    have O2 := Lib.hid o2
    have hz2 := hx2.out.size
    clear o2 y J1
    go_wp2_with fail
    refine (kTestNot_s (x - 100) _ ⟨hx0, hx15⟩).mono ?_
    rintro e w' ⟨rfl, rfl⟩
    go_wp2_with fail
    refine (ih3.out _ (by first | exact hx2.out | exact hx2.out.trans (by (repeat (first | exact Ext.refl _ | assumption | refine Ext.alloc ?_ _ | refine Ext.drewN ?_ _ | refine Ext.drew ?_))))).mono ?_
    rintro e w3 ⟨v3, rfl, o3, y⟩
    have hx3 := Lib.hid (hx2.out.trans (Ext.trans (show Ext w2 _ by (repeat (first | exact Ext.refl _ | assumption | refine Ext.alloc ?_ _ | refine Ext.drewN ?_ _ | refine Ext.drew ?_))) y))
    have O23 := Lib.hid (O2.out.ext (Ext.trans (show Ext w2 _ by (repeat (first | exact Ext.refl _ | assumption | refine Ext.alloc ?_ _ | refine Ext.drewN ?_ _ | refine Ext.drew ?_))) y))
    have T3 : Hid (IntsAt w3 (some ⟨w2.heap.size, 0, none⟩) [15 - (x - 100)]) := ((OwnI.lit1 w2 w2.heap.size 3 (15 - (x - 100)) (Nat.le_refl _)).ints).ext (Ext.trans (by (repeat (first | exact Ext.refl _ | assumption | refine Ext.alloc ?_ _ | refine Ext.drewN ?_ _ | refine Ext.drew ?_))) y)
    obtain ⟨a3, c3, rfl, -⟩ := o3.shape
    have J2 : Hid (∀ w', Ext w3 w' → Calls Try.prog 76 #[.slice (some ⟨w2.heap.size, 0, none⟩) 1 1, .slice a3 c.kat.words.length c3, .int .i64 19] w' (RetI 3 w' ([15 - (x - 100)] ++ c.kat.words ++ [19]))) := fun w' hx =>
      l2Join_c (some ⟨w2.heap.size, 0, none⟩) a3 1 c3 [15 - (x - 100)] c.kat.words 19 w' (T3.out.ext hx) (o3.ints.ext hx) (by simp) (by omega)
    have hz3 := hx3.out.size
    clear o3 y
    obtain ⟨L3, hL3, hl3⟩ := named ([15 - (x - 100)] ++ c.kat.words ++ [19])
    have hl3' : L3.length ≤ 100 := by rw [hl3]; simp; omega
    rw [← hL3.out] at J2 hR
    generalize c.kat.words.length = n2 at *
    clear hl3
    go_wp2_with fail
    refine (J2.out _ (by (repeat (first | exact Ext.refl _ | assumption | refine Ext.alloc ?_ _ | refine Ext.drewN ?_ _ | refine Ext.drew ?_)))).mono ?_
    rintro e w4 ⟨v4, rfl, o4, y⟩
    have hx4 := Lib.hid (hx3.out.trans (Ext.trans (show Ext w3 _ by (repeat (first | exact Ext.refl _ | assumption | refine Ext.alloc ?_ _ | refine Ext.drewN ?_ _ | refine Ext.drew ?_))) y))
    have O24 := Lib.hid (O23.out.ext (Ext.trans (show Ext w3 _ by (repeat (first | exact Ext.refl _ | assumption | refine Ext.alloc ?_ _ | refine Ext.drewN ?_ _ | refine Ext.drew ?_))) y))
    obtain ⟨a4, c4, rfl, -⟩ := o4.shape
    have J3 : Hid (∀ w', Ext w4 w' → Calls Try.prog 76 #[.slice a2 L2.length c2, .slice a4 L3.length c4, .int .i64 20] w' (RetI 3 w' (L2 ++ L3 ++ [20]))) := fun w' hx =>
      l2Join_c a2 a4 c2 c4 L2 L3 20 w' (O24.out.ints.ext hx) (o4.ints.ext hx) (by omega) (by omega)
    have hz4 := hx4.out.size
    clear o4 y
    go_wp2_with fail
    refine (J3.out _ (by (repeat (first | exact Ext.refl _ | assumption | refine Ext.alloc ?_ _ | refine Ext.drewN ?_ _ | refine Ext.drew ?_)))).mono ?_
    rintro e w5 ⟨v5, rfl, o5, y⟩
    have hx5 := Lib.hid (hx4.out.trans (Ext.trans (show Ext w4 _ by (repeat (first | exact Ext.refl _ | assumption | refine Ext.alloc ?_ _ | refine Ext.drewN ?_ _ | refine Ext.drew ?_))) y))
    have O5 := Lib.hid (o5.mono (B' := w.heap.size) (by first | omega | (simp; omega)))
    clear o5 y J3
    go_wp2
    go_ret
    exact ⟨_, rfl, by rw [hR.out]; exact O5.out.ext (by (repeat (first | exact Ext.refl _ | assumption | refine Ext.alloc ?_ _ | refine Ext.drewN ?_ _ | refine Ext.drew ?_))), hx5.out.trans (by (repeat (first | exact Ext.refl _ | assumption | refine Ext.alloc ?_ _ | refine Ext.drewN ?_ _ | refine Ext.drew ?_)))⟩
end Go.Proofs.Ytnhdachenckceaa
