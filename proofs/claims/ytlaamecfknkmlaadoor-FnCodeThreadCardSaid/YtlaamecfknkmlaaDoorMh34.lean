/- Merged texts: contracts and plain lemmas (Pj). -/
import Derived.Test.YtlaamecfknkmlaaDoorMh21
import Derived.Test.YtlaamecfknkmlaaDoorMh33
import Derived.Test.YtlaamecfknkmlaaDoorMh14
import Derived.Deep.RegionLaw
/- Contracts: the code of a program: the reference. -/
namespace Go.Proofs.YtlaamecfknkmlaaDoor
set_option linter.unusedVariables false
open Go.RowKit Go.Kt

set_option maxRecDepth 100000 in
set_option maxHeartbeats 1000000 in
theorem l8Code_c : ∀ (t : Pt), t.Good → ∀ (b off cap p : Nat) (pI : Int) (w : World), pI = (p : Int) → IntsAt w (some ⟨b, off, none⟩) t.words → t.words.length ≤ cap → t.words.length ≤ 16 → p + 4 * t.words.length ≤ 1000 →
    Calls Tryd.prog 74 #[.slice (some ⟨b, off, none⟩) t.words.length cap, .int .i64 pI] w (RetF 61 w t.many (t.code p))
  | .one x, hg, b, off, cap, p, pI, w, hpI, hl, hcap, h16, hp => by
    subst hpI
    have hc := (IntsAt.at_ (xs := []) (ys := []) hl).1
    have hg : x = 15 ∨ (16 ≤ x ∧ x ≤ 18) := hg
    simp only [Pt.words, List.length_nil, Nat.add_zero, List.length_cons, Nat.zero_add] at hc hcap ⊢
    clear hl
    by_cases h1 : x = 15
    · subst h1
      have hR : Hid (Pt.many (.one 15) = 0 ∧ Pt.code (.one 15) p = []) := ⟨rfl, rfl⟩
      clear hg
      go_enter Tryd.func74, Tryd.ntmps74
      go_wp2
      go_ret
      exact ⟨_, rfl, OwnF.empty _ _, by (repeat (first | exact Ext.refl _ | assumption | refine Ext.alloc ?_ _ | refine Ext.drewN ?_ _ | refine Ext.drew ?_))⟩
    · have e1 : (x == 15) = false := by simp [h1]
      have e2 : x ≤ 18 := by omega
      have hR : Hid (Pt.many (.one x) = 1 ∧ Pt.code (.one x) p = [0, x, 0]) := ⟨if_neg h1, if_neg h1⟩
      clear h1 hg
      go_enter Tryd.func74, Tryd.ntmps74
      go_wp2
      go_ret
      exact ⟨_, rfl, by rw [hR.out.1, hR.out.2]; exact OwnF.lit _ _ _ _ _ _ (Nat.le_refl _), by (repeat (first | exact Ext.refl _ | assumption | refine Ext.alloc ?_ _ | refine Ext.drewN ?_ _ | refine Ext.drew ?_))⟩
  | .loop t a, hg, b, off, cap, p, pI, w, hpI, hl, hcap, h16, hp => by
    subst hpI
    have ih := Lib.hid (l8Code_c a hg.2)
    have hc := (IntsAt.at_ (xs := a.words) (ys := []) hl).1
    have hla := IntsAt.left (xs := a.words) hl
    have hlen : (Pt.loop t a).words.length = a.words.length + 1 := by simp [Pt.words]
    have hm := a.many_le
    have hR : Hid (Pt.many (.loop t a) = 1 + a.many + 1 ∧ Pt.code (.loop t a) p = [1, t, ((p : Int) + a.many + 2)] ++ a.code (p + 1) ++ [2, 0, (p : Int)]) := ⟨by simp only [Pt.many]; omega, by simp only [Pt.code]; congr 1⟩
    have ht := hg.1
    rw [hlen] at hcap h16 hp ⊢
    clear hl hg hlen
    have e1 : ((200 + t : Int) == 15) = false := by simp; omega
    have e2 : ¬ (200 + t : Int) ≤ 18 := by omega
    have e3 : (200 + t : Int) ≥ 200 := by omega
    obtain ⟨q, hq⟩ : ∃ q, q = a.words.length := ⟨_, rfl⟩
    have hw1 : IntKind.i64.wrap ((q : Int) + 1 - 1) = (q : Int) := by rw [IntWalk.i64_in _ (by omega)]; omega
    have hqc : (q : Int) ≤ cap := by omega
    obtain ⟨x, hx⟩ : ∃ x : Int, x = 200 + t := ⟨_, rfl⟩
    have hxt : Hid (x - 200 = t) := by unfold Hid; omega
    have hx2 : x ≤ 215 := by omega
    rw [← hx] at e1 e2 e3 hc
    have HLA := Lib.hid hla
    have ih2 : Hid (∀ w', Ext w w' → Calls Tryd.prog 74 #[.slice (some ⟨b, off, none⟩) q cap, .int .i64 ((p : Int) + 1)] w' (RetF 61 w' a.many (a.code (p + 1)))) := fun w' hx => by
      rw [hq]; exact ih.out b off cap (p + 1) _ w' (by omega) (HLA.out.ext hx) (by omega) (by omega) (by omega)
    clear hx hla ih ht
    rw [← hq] at hc hcap h16 hm hp ⊢
    clear hq
    go_enter Tryd.func74, Tryd.ntmps74
    go_wp2_with fail
    refine (ih2.out _ (by (repeat (first | exact Ext.refl _ | assumption | refine Ext.alloc ?_ _ | refine Ext.drewN ?_ _ | refine Ext.drew ?_)))).mono ?_
    rintro e w1 ⟨v1, rfl, o1, y⟩
    have hx1 := Ext.trans (show Ext w _ by (repeat (first | exact Ext.refl _ | assumption | refine Ext.alloc ?_ _ | refine Ext.drewN ?_ _ | refine Ext.drew ?_))) y
    obtain ⟨a1, c1, rfl, i1⟩ := o1.shape
    have I1 := Lib.hid i1
    have HX1 := Lib.hid hx1
    have hz1 := hx1.size
    clear y hx1 i1 o1
    generalize a.many = m at *
    have HW1 : Hid (IntKind.i64.wrap ((p : Int) + m + 2) = (p : Int) + m + 2) := IntWalk.i64_in _ (by omega)
    go_wp2_with (at_builtin; refine any_append_inss (by rfl) _ _ _ rfl w.heap.size 61 Tryd.underlying35 infoIns _ 1 [1, x - 200, (p : Int) + m + 2] rfl (by first | exact OwnF.lit _ _ _ _ _ _ hz1 | exact (OwnF.lit _ _ _ _ _ _ hz1).ext (by (repeat (first | exact Ext.refl _ | assumption | refine Ext.alloc ?_ _ | refine Ext.drewN ?_ _ | refine Ext.drew ?_)))) _ m _ (a.code (p + 1)) rfl (I1.out.ext (by (repeat (first | exact Ext.refl _ | assumption | refine Ext.alloc ?_ _ | refine Ext.drewN ?_ _ | refine Ext.drew ?_)))) (by omega) (by first | omega | (simp; omega)) ?_)
    intro v2 w2 o2 g2
    have hx2 := Lib.hid (Ext.rowOf (HX1.out.trans (by (repeat (first | exact Ext.refl _ | assumption | refine Ext.alloc ?_ _ | refine Ext.drewN ?_ _ | refine Ext.drew ?_)))) g2 hz1)
    obtain ⟨a2, c2, rfl⟩ := o2.shape'
    have O2 := Lib.hid o2
    have hz2 := hx2.out.size
    clear o2 g2
    go_wp2_with (at_builtin; refine any_append_inss (by rfl) _ _ _ rfl w.heap.size 61 Tryd.underlying35 infoIns _ (1 + m) _ rfl (O2.out.ext (by (repeat (first | exact Ext.refl _ | assumption | refine Ext.alloc ?_ _ | refine Ext.drewN ?_ _ | refine Ext.drew ?_)))) _ 1 _ [2, 0, (p : Int)] rfl (by first | exact (OwnF.lit _ _ _ _ _ _ (Nat.le_refl _)).flat | exact ((OwnF.lit _ _ _ _ _ _ (Nat.le_refl _)).flat).ext (by (repeat (first | exact Ext.refl _ | assumption | refine Ext.alloc ?_ _ | refine Ext.drewN ?_ _ | refine Ext.drew ?_)))) (by omega) (by first | omega | (simp; omega)) ?_)
    intro v3 w3 o3 g3
    have hx3 := Lib.hid (Ext.row (hx2.out.trans (by (repeat (first | exact Ext.refl _ | assumption | refine Ext.alloc ?_ _ | refine Ext.drewN ?_ _ | refine Ext.drew ?_)))) g3 (fun k hk => (World.ownsRow.lt O2.out k hk).1))
    obtain ⟨a3, c3, rfl⟩ := o3.shape'
    have O3 := Lib.hid o3
    clear o3 g3
    go_wp2
    go_ret
    exact ⟨_, rfl, by rw [hR.out.1, hR.out.2, ← hxt.out]; exact O3.out, hx3.out.trans (by (repeat (first | exact Ext.refl _ | assumption | refine Ext.alloc ?_ _ | refine Ext.drewN ?_ _ | refine Ext.drew ?_)))⟩
  | .seq a c, hg, b, off, cap, p, pI, w, hpI, hl, hcap, h16, hp => by
    subst hpI
    have iha := Lib.hid (l8Code_c a hg.1)
    have ihc := Lib.hid (l8Code_c c hg.2)
    have hc := (IntsAt.at_ (xs := a.words ++ c.words) (ys := []) hl).1
    have hla := IntsAt.left (xs := a.words) (IntsAt.left (xs := a.words ++ c.words) hl)
    have hlc := IntsAt.right (xs := a.words) (IntsAt.left (xs := a.words ++ c.words) hl)
    have hlen : (Pt.seq a c).words.length = a.words.length + c.words.length + 1 := by simp [Pt.words]; omega
    have hH : Hid (∀ w', Ext w w' → Calls Tryd.prog 78 #[.slice (some ⟨b, off, none⟩) (a.words.length + c.words.length + 1) cap] w' fun e w'' => e = .returned (.tuple #[.slice (some ⟨b, off, none⟩) a.words.length cap, .slice (some ⟨b, off + a.words.length, none⟩) c.words.length (cap - a.words.length)]) ∧ w'' = w'.drew) := fun w' hx => by
      rw [← hlen]
      exact l8Halves_c b off cap (Pt.seq a c).words c a.words.length w' (hl.ext hx) hg.2 (SegP.right (xs := a.words) (SegP.left (xs := a.words ++ c.words) (ys := [30]) (fun i _ => by rw [Nat.zero_add]; rfl)) |> fun h => by rwa [Nat.zero_add] at h) (by rw [hlen]) hcap (by omega)
    have hma := a.many_le
    have hmc := c.many_le
    have hR : Hid (Pt.many (.seq a c) = a.many + c.many ∧ Pt.code (.seq a c) p = [] ++ a.code p ++ c.code (p + a.many)) := ⟨rfl, by simp only [Pt.code, List.nil_append]⟩
    rw [List.length_append] at hc
    rw [hlen] at hcap h16 hp ⊢
    clear hl hg hlen
    have HLA := Lib.hid hla
    have HLC := Lib.hid hlc
    obtain ⟨q, hq⟩ : ∃ q, q = a.words.length := ⟨_, rfl⟩
    obtain ⟨r, hr⟩ : ∃ r, r = c.words.length := ⟨_, rfl⟩
    have ih2 : Hid (∀ w', Ext w w' → Calls Tryd.prog 74 #[.slice (some ⟨b, off, none⟩) q cap, .int .i64 (p : Int)] w' (RetF 61 w' a.many (a.code p))) := fun w' hx => by
      rw [hq]; exact iha.out b off cap p _ w' rfl (HLA.out.ext hx) (by omega) (by omega) (by omega)
    have ih3 : Hid (∀ w', Ext w w' → Calls Tryd.prog 74 #[.slice (some ⟨b, off + q, none⟩) r (cap - q), .int .i64 ((p : Int) + a.many)] w' (RetF 61 w' c.many (c.code (p + a.many)))) := fun w' hx => by
      rw [hq, hr]; exact ihc.out b (off + a.words.length) (cap - a.words.length) (p + a.many) _ w' (by omega) (HLC.out.ext hx) (by omega) (by omega) (by omega)
    clear hla hlc iha ihc
    rw [← hq, ← hr] at hc hcap h16 hp hH ⊢
    rw [← hq] at hma
    rw [← hr] at hmc
    clear hq hr
    have hw1 : IntKind.i64.wrap ((q : Int) + r + 1 - 1) = (q : Int) + r := by rw [IntWalk.i64_in _ (by omega)]; omega
    have hqc : (q : Int) + r ≤ cap := by omega
    have hrn : ((q : Int) + r).toNat = q + r := by omega
    go_enter Tryd.func74, Tryd.ntmps74
    go_wp2_with fail
    refine (hH.out _ (by (repeat (first | exact Ext.refl _ | assumption | refine Ext.alloc ?_ _ | refine Ext.drewN ?_ _ | refine Ext.drew ?_)))).mono ?_
    rintro e w1 ⟨rfl, rfl⟩
    go_wp2_with fail
    refine (ih2.out _ (by (repeat (first | exact Ext.refl _ | assumption | refine Ext.alloc ?_ _ | refine Ext.drewN ?_ _ | refine Ext.drew ?_)))).mono ?_
    rintro e w1 ⟨v1, rfl, o1, y⟩
    have hx1 := Ext.trans (show Ext w _ by (repeat (first | exact Ext.refl _ | assumption | refine Ext.alloc ?_ _ | refine Ext.drewN ?_ _ | refine Ext.drew ?_))) y
    obtain ⟨a1, c1, rfl, i1⟩ := o1.shape
    have I1 := Lib.hid i1
    have HX1 := Lib.hid hx1
    have hz1 := hx1.size
    clear y hx1 i1 o1
    generalize a.many = m at *
    have HW1 : Hid (IntKind.i64.wrap ((p : Int) + m) = (p : Int) + m) := IntWalk.i64_in _ (by omega)
    go_wp2_with (at_builtin; refine any_append_inss (by rfl) _ _ _ rfl (w.heap.size) 61 Tryd.underlying35 infoIns _ (0) ([]) rfl (by first | exact (OwnF.empty _ _).mono hz1 | exact ((OwnF.empty _ _).mono hz1).ext (by (repeat (first | exact Ext.refl _ | assumption | refine Ext.alloc ?_ _ | refine Ext.drewN ?_ _ | refine Ext.drew ?_)))) _ (m) _ (a.code p) rfl (I1.out.ext (by (repeat (first | exact Ext.refl _ | assumption | refine Ext.alloc ?_ _ | refine Ext.drewN ?_ _ | refine Ext.drew ?_)))) (by omega) (by first | omega | (simp; done) | (simp; omega)) ?_)
    intro v2 w2 o2 g2
    have hx2 := Lib.hid (Ext.rowOf (HX1.out.trans (by (repeat (first | exact Ext.refl _ | assumption | refine Ext.alloc ?_ _ | refine Ext.drewN ?_ _ | refine Ext.drew ?_)))) g2 hz1)
    obtain ⟨a2, c2, rfl⟩ := o2.shape'
    have O2 := Lib.hid o2
    have hz2 := hx2.out.size
    clear o2 g2
    go_wp2_with fail
    refine (ih3.out _ (by first | exact hx2.out | exact hx2.out.trans (by (repeat (first | exact Ext.refl _ | assumption | refine Ext.alloc ?_ _ | refine Ext.drewN ?_ _ | refine Ext.drew ?_))))).mono ?_
    rintro e w3 ⟨v3, rfl, o3, y⟩
    have hx3 := Lib.hid (hx2.out.trans (Ext.trans (show Ext w2 _ by (repeat (first | exact Ext.refl _ | assumption | refine Ext.alloc ?_ _ | refine Ext.drewN ?_ _ | refine Ext.drew ?_))) y))
    obtain ⟨a3, c3, rfl, i3⟩ := o3.shape
    have I3 := Lib.hid i3
    have O23 := Lib.hid (O2.out.ext (Ext.trans (show Ext w2 _ by (repeat (first | exact Ext.refl _ | assumption | refine Ext.alloc ?_ _ | refine Ext.drewN ?_ _ | refine Ext.drew ?_))) y))
    have hz3 := hx3.out.size
    clear y i3 o3
    go_wp2_with (at_builtin; refine any_append_inss (by rfl) _ _ _ rfl (w.heap.size) 61 Tryd.underlying35 infoIns _ (m) (_) rfl (O23.out.ext (by (repeat (first | exact Ext.refl _ | assumption | refine Ext.alloc ?_ _ | refine Ext.drewN ?_ _ | refine Ext.drew ?_)))) _ (c.many) _ (c.code (p + m)) rfl (I3.out.ext (by (repeat (first | exact Ext.refl _ | assumption | refine Ext.alloc ?_ _ | refine Ext.drewN ?_ _ | refine Ext.drew ?_)))) (by omega) (by first | omega | (simp; done) | (simp; omega)) ?_)
    intro v4 w4 o4 g4
    have hx4 := Lib.hid (Ext.row (hx3.out.trans (by (repeat (first | exact Ext.refl _ | assumption | refine Ext.alloc ?_ _ | refine Ext.drewN ?_ _ | refine Ext.drew ?_)))) g4 (fun k hk => (World.ownsRow.lt O23.out k hk).1))
    obtain ⟨a4, c4, rfl⟩ := o4.shape'
    have O4 := Lib.hid o4
    clear o4 g4
    go_wp2
    go_ret
    exact ⟨.slice a4 (m + c.many) c4, rfl, by rw [hR.out.1, hR.out.2]; simpa only [List.cons_append, List.nil_append, List.append_assoc] using O4.out, hx4.out.trans (by (repeat (first | exact Ext.refl _ | assumption | refine Ext.alloc ?_ _ | refine Ext.drewN ?_ _ | refine Ext.drew ?_)))⟩
  | .ifs t a c, hg, b, off, cap, p, pI, w, hpI, hl, hcap, h16, hp => by
    subst hpI
    have iha := Lib.hid (l8Code_c a hg.2.1)
    have ihc := Lib.hid (l8Code_c c hg.2.2)
    have hc := (IntsAt.at_ (xs := a.words ++ c.words) (ys := []) hl).1
    have hla := IntsAt.left (xs := a.words) (IntsAt.left (xs := a.words ++ c.words) hl)
    have hlc := IntsAt.right (xs := a.words) (IntsAt.left (xs := a.words ++ c.words) hl)
    have hlen : (Pt.ifs t a c).words.length = a.words.length + c.words.length + 1 := by simp [Pt.words]; omega
    have hH : Hid (∀ w', Ext w w' → Calls Tryd.prog 78 #[.slice (some ⟨b, off, none⟩) (a.words.length + c.words.length + 1) cap] w' fun e w'' => e = .returned (.tuple #[.slice (some ⟨b, off, none⟩) a.words.length cap, .slice (some ⟨b, off + a.words.length, none⟩) c.words.length (cap - a.words.length)]) ∧ w'' = w'.drew) := fun w' hx => by
      rw [← hlen]
      exact l8Halves_c b off cap (Pt.ifs t a c).words c a.words.length w' (hl.ext hx) hg.2.2 (SegP.right (xs := a.words) (SegP.left (xs := a.words ++ c.words) (ys := [100 + t]) (fun i _ => by rw [Nat.zero_add]; rfl)) |> fun h => by rwa [Nat.zero_add] at h) (by rw [hlen]) hcap (by omega)
    have hma := a.many_le
    have hmc := c.many_le
    have hR : Hid (Pt.many (.ifs t a c) = 1 + a.many + 1 + c.many ∧ Pt.code (.ifs t a c) p = [1, t, ((p : Int) + a.many + 2)] ++ a.code (p + 1) ++ [2, 0, ((p : Int) + a.many + 2 + c.many)] ++ c.code (p + a.many + 2)) := ⟨by simp only [Pt.many]; omega, by simp only [Pt.code]; congr 1⟩
    have ht := hg.1
    rw [List.length_append] at hc
    rw [hlen] at hcap h16 hp ⊢
    clear hl hg hlen
    have HLA := Lib.hid hla
    have HLC := Lib.hid hlc
    obtain ⟨q, hq⟩ : ∃ q, q = a.words.length := ⟨_, rfl⟩
    obtain ⟨r, hr⟩ : ∃ r, r = c.words.length := ⟨_, rfl⟩
    have ih2 : Hid (∀ w', Ext w w' → Calls Tryd.prog 74 #[.slice (some ⟨b, off, none⟩) q cap, .int .i64 ((p : Int) + 1)] w' (RetF 61 w' a.many (a.code (p + 1)))) := fun w' hx => by
      rw [hq]; exact iha.out b off cap (p + 1) _ w' rfl (HLA.out.ext hx) (by omega) (by omega) (by omega)
    have ih3 : Hid (∀ w', Ext w w' → Calls Tryd.prog 74 #[.slice (some ⟨b, off + q, none⟩) r (cap - q), .int .i64 ((p : Int) + a.many + 2)] w' (RetF 61 w' c.many (c.code (p + a.many + 2)))) := fun w' hx => by
      rw [hq, hr]; exact ihc.out b (off + a.words.length) (cap - a.words.length) (p + a.many + 2) _ w' (by omega) (HLC.out.ext hx) (by omega) (by omega) (by omega)
    clear hla hlc iha ihc
    rw [← hq, ← hr] at hc hcap h16 hp hH ⊢
    rw [← hq] at hma
    rw [← hr] at hmc
    clear hq hr
    obtain ⟨x, hx⟩ : ∃ x : Int, x = 100 + t := ⟨_, rfl⟩
    have hxt : Hid (x - 100 = t) := by unfold Hid; omega
    have hx1 : 100 ≤ x := by omega
    have hx2 : x ≤ 115 := by omega
    rw [← hx] at hc
    clear hx ht
    have e1 : (x == 15) = false := by simp; omega
    have e2 : ¬ x ≤ 18 := by omega
    have e3 : ¬ x ≥ 200 := by omega
    have e4 : (x == 30) = false := by simp; omega
    have hw1 : IntKind.i64.wrap ((q : Int) + r + 1 - 1) = (q : Int) + r := by rw [IntWalk.i64_in _ (by omega)]; omega
    have hqc : (q : Int) + r ≤ cap := by omega
    have hrn : ((q : Int) + r).toNat = q + r := by omega
    go_enter Tryd.func74, Tryd.ntmps74
    go_wp2_with fail
    refine (hH.out _ (by (repeat (first | exact Ext.refl _ | assumption | refine Ext.alloc ?_ _ | refine Ext.drewN ?_ _ | refine Ext.drew ?_)))).mono ?_
    rintro e w1 ⟨rfl, rfl⟩
    go_wp2_with fail
    refine (ih2.out _ (by (repeat (first | exact Ext.refl _ | assumption | refine Ext.alloc ?_ _ | refine Ext.drewN ?_ _ | refine Ext.drew ?_)))).mono ?_
    rintro e w1 ⟨v1, rfl, o1, y⟩
    have hx1 := Ext.trans (show Ext w _ by (repeat (first | exact Ext.refl _ | assumption | refine Ext.alloc ?_ _ | refine Ext.drewN ?_ _ | refine Ext.drew ?_))) y
    obtain ⟨a1, c1, rfl, i1⟩ := o1.shape
    have I1 := Lib.hid i1
    have HX1 := Lib.hid hx1
    have hz1 := hx1.size
    clear y hx1 i1 o1
    generalize a.many = m at *
    go_wp2_with fail
    refine (ih3.out _ (by first | exact HX1.out | exact HX1.out.trans (by (repeat (first | exact Ext.refl _ | assumption | refine Ext.alloc ?_ _ | refine Ext.drewN ?_ _ | refine Ext.drew ?_))))).mono ?_
    rintro e w2 ⟨v2, rfl, o2, y⟩
    have hx2 := Lib.hid (HX1.out.trans (Ext.trans (show Ext w1 _ by (repeat (first | exact Ext.refl _ | assumption | refine Ext.alloc ?_ _ | refine Ext.drewN ?_ _ | refine Ext.drew ?_))) y))
    obtain ⟨a2, c2, rfl, i2⟩ := o2.shape
    have I2 := Lib.hid i2
    have I12 := Lib.hid (I1.out.ext (Ext.trans (show Ext w1 _ by (repeat (first | exact Ext.refl _ | assumption | refine Ext.alloc ?_ _ | refine Ext.drewN ?_ _ | refine Ext.drew ?_))) y))
    have hz2 := hx2.out.size
    clear y i2 o2
    generalize c.many = k at *
    go_wp2_with (at_builtin; refine any_append_inss (by rfl) _ _ _ rfl (w2.heap.size) 61 Tryd.underlying35 infoIns _ (1) ([1, x - 100, (p : Int) + m + 2]) rfl (by first | exact OwnF.lit _ _ _ _ _ _ (Nat.le_refl _) | exact (OwnF.lit _ _ _ _ _ _ (Nat.le_refl _)).ext (by (repeat (first | exact Ext.refl _ | assumption | refine Ext.alloc ?_ _ | refine Ext.drewN ?_ _ | refine Ext.drew ?_)))) _ (m) _ (a.code (p + 1)) rfl (I12.out.ext (by (repeat (first | exact Ext.refl _ | assumption | refine Ext.alloc ?_ _ | refine Ext.drewN ?_ _ | refine Ext.drew ?_)))) (by omega) (by first | omega | (simp; done) | (simp; omega)) ?_)
    intro v3 w3 o3 g3
    have hx3 := Lib.hid (Ext.rowOf (hx2.out.trans (by (repeat (first | exact Ext.refl _ | assumption | refine Ext.alloc ?_ _ | refine Ext.drewN ?_ _ | refine Ext.drew ?_)))) g3 hz2)
    have hx23 := Lib.hid (Ext.rowOf (w0 := w2) (show Ext w2 _ by (repeat (first | exact Ext.refl _ | assumption | refine Ext.alloc ?_ _ | refine Ext.drewN ?_ _ | refine Ext.drew ?_))) g3 (Nat.le_refl _))
    obtain ⟨a3, c3, rfl⟩ := o3.shape'
    have O3 := Lib.hid o3
    have hz23 := hx23.out.size
    have I23 := Lib.hid (I2.out.ext hx23.out)
    have hz3 := hx3.out.size
    clear o3 g3
    go_wp2_with (at_builtin; refine any_append_inss (by rfl) _ _ _ rfl (w2.heap.size) 61 Tryd.underlying35 infoIns _ (1 + m) (_) rfl (O3.out.ext (by (repeat (first | exact Ext.refl _ | assumption | refine Ext.alloc ?_ _ | refine Ext.drewN ?_ _ | refine Ext.drew ?_)))) _ (1) _ ([2, 0, (p : Int) + m + 2 + k]) rfl (by first | exact (OwnF.lit _ _ _ _ _ _ (Nat.le_refl _)).flat | exact ((OwnF.lit _ _ _ _ _ _ (Nat.le_refl _)).flat).ext (by (repeat (first | exact Ext.refl _ | assumption | refine Ext.alloc ?_ _ | refine Ext.drewN ?_ _ | refine Ext.drew ?_)))) (by omega) (by first | omega | (simp; done) | (simp; omega)) ?_)
    intro v4 w4 o4 g4
    have hx4 := Lib.hid (Ext.row (hx3.out.trans (by (repeat (first | exact Ext.refl _ | assumption | refine Ext.alloc ?_ _ | refine Ext.drewN ?_ _ | refine Ext.drew ?_)))) g4 (fun k hk => Nat.le_trans hz2 (World.ownsRow.lt O3.out k hk).1))
    have hx34 := Lib.hid (Ext.row (hx23.out.trans (by (repeat (first | exact Ext.refl _ | assumption | refine Ext.alloc ?_ _ | refine Ext.drewN ?_ _ | refine Ext.drew ?_)))) g4 (fun k hk => (World.ownsRow.lt O3.out k hk).1))
    obtain ⟨a4, c4, rfl⟩ := o4.shape'
    have O4 := Lib.hid o4
    have hz24 := hx34.out.size
    have I24 := Lib.hid (I2.out.ext hx34.out)
    have hz4 := hx4.out.size
    clear o4 g4
    go_wp2_with (at_builtin; refine any_append_inss (by rfl) _ _ _ rfl (w2.heap.size) 61 Tryd.underlying35 infoIns _ (1 + m + 1) (_) rfl (O4.out.ext (by (repeat (first | exact Ext.refl _ | assumption | refine Ext.alloc ?_ _ | refine Ext.drewN ?_ _ | refine Ext.drew ?_)))) _ (k) _ (c.code (p + m + 2)) rfl (I24.out.ext (by (repeat (first | exact Ext.refl _ | assumption | refine Ext.alloc ?_ _ | refine Ext.drewN ?_ _ | refine Ext.drew ?_)))) (by omega) (by first | omega | (simp; done) | (simp; omega)) ?_)
    intro v5 w5 o5 g5
    have hx5 := Lib.hid (Ext.row (hx4.out.trans (by (repeat (first | exact Ext.refl _ | assumption | refine Ext.alloc ?_ _ | refine Ext.drewN ?_ _ | refine Ext.drew ?_)))) g5 (fun k hk => Nat.le_trans hz2 (World.ownsRow.lt O4.out k hk).1))
    obtain ⟨a5, c5, rfl⟩ := o5.shape'
    have O5 := Lib.hid o5
    clear o5 g5
    go_wp2
    go_ret
    exact ⟨.slice a5 (1 + m + 1 + k) c5, rfl, by rw [hR.out.1, hR.out.2, ← hxt.out]; simpa only [List.cons_append, List.nil_append, List.append_assoc] using O5.out.mono hz2, hx5.out.trans (by (repeat (first | exact Ext.refl _ | assumption | refine Ext.alloc ?_ _ | refine Ext.drewN ?_ _ | refine Ext.drew ?_)))⟩
end Go.Proofs.YtlaamecfknkmlaaDoor
