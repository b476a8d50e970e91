/- For every list: the program's ProgKat answers what the reference's does, leaves the list alone, and shares no memory (FnExactProgKat). -/
import Derived.Test.YtnhdachenckceaaQc
namespace Go.Proofs.Ytnhdachenckceaa
set_option linter.unusedVariables false
open Go.RowKit Go.Kt

/-- What ProgKat answers. -/
def KcAt (l : List Int) (L : List Int) (ok : Bool) : Prop :=
  (pvB l = false ∧ L = [] ∧ ok = false) ∨ (pvB l = true ∧ ∃ t : Pt, t.Good ∧ t.words = l ∧ l.length ≤ 16 ∧ L = fitL t.kat.words ∧ ok = fitB t.kat.words)
theorem fitL_le (l : List Int) : (fitL l).length ≤ 40 := by
  by_cases h : l.length ≤ 40
  · rw [(fit_yes h).1]; exact h
  · rw [(fit_no h).1]; simp
theorem kcAt (l : List Int) : ∃ L ok, KcAt l L ok ∧ L.length ≤ 40 := by
  cases h : pvB l
  · exact ⟨[], false, .inl ⟨h, rfl, rfl⟩, by simp⟩
  · obtain ⟨t, hg, hw, hl⟩ := pvB_tree h
    exact ⟨_, _, .inr ⟨h, t, hg, hw, hl, rfl, rfl⟩, fitL_le _⟩
theorem RetIB.void {w w' : World} {v : Value} (hv : OwnI w' w.heap.size 3 v []) (hx : Ext w w') : RetIB w [] false (.returned (.tuple #[v, .bool false])) w' := ⟨v, rfl, hv, hx⟩
theorem ownI_cap {w : World} {B E n cap : Nat} {a : Option Addr} {l : List Int} (h : OwnI w B E (.slice a n cap) l) : l.length ≤ cap := by
  have := h.len
  subst this
  exact own_capv h
set_option maxHeartbeats 1000000 in
theorem sProgKat_c (a : Option Addr) (cap : Nat) (l : List Int) (L : List Int) (ok : Bool) (w : World) (hl : IntsAt w a l) (hlen : l.length ≤ 4194304) (hcap : l.length ≤ cap) (hp : KcAt l L ok) :
    Calls Try.prog 41 #[.slice a l.length cap] w (RetIB w L ok) := by
  have HL := Lib.hid hl
  rcases hp with ⟨hv, rfl, rfl⟩ | ⟨hv, t, hg, hw, h16, rfl, rfl⟩
  · clear hl
    go_enter Try.func41, Try.ntmps41
    go_wp2_with fail
    refine (sProgValid_c a cap l _ (HL.out.ext (by (repeat (first | exact Ext.refl _ | assumption | refine Ext.alloc ?_ _ | refine Ext.drewN ?_ _ | refine Ext.drew ?_)))) hlen).mono ?_
    rw [hv]
    rintro e w' ⟨rfl, rfl⟩
    go_wp2
    go_ret2
    exact RetIB.void (OwnI.empty _ _) (by (repeat (first | exact Ext.refl _ | assumption | refine Ext.alloc ?_ _ | refine Ext.drewN ?_ _ | refine Ext.drew ?_)))
  · have hpos := t.words_pos
    have hk80 : t.kat.words.length ≤ 80 := words_le16 (by rw [hw]; exact h16)
    have hkv := Lib.hid (kvB_words (t.kat_good hg))
    have hl2 := hl
    obtain ⟨b, off, h1, h2⟩ := hl2
    obtain ⟨rfl, hb⟩ := h1 (by rw [← hw]; omega)
    have hc : Hid (∀ w', Ext w w' → Calls Try.prog 68 #[.slice (some ⟨b, off, none⟩) l.length cap] w' (RetI 3 w' t.kat.words)) := fun w' hx => by
      have := l8Kat_c t hg b off cap w' (by rw [hw]; exact HL.out.ext hx) (by rw [hw]; exact hcap) (by rw [hw]; exact h16)
      rw [hw] at this
      exact this
    clear hl h1 h2 hpos hw
    have hfy := Lib.hid (fit_yes (l := t.kat.words))
    have hfn := Lib.hid (fit_no (l := t.kat.words))
    generalize t.kat.words = K at *
    go_enter Try.func41, Try.ntmps41
    go_wp2_with fail
    refine (sProgValid_c _ cap l _ (HL.out.ext (by (repeat (first | exact Ext.refl _ | assumption | refine Ext.alloc ?_ _ | refine Ext.drewN ?_ _ | refine Ext.drew ?_)))) hlen).mono ?_
    rw [hv]
    rintro e w' ⟨rfl, rfl⟩
    go_wp2_with fail
    refine (hc.out _ (by (repeat (first | exact Ext.refl _ | assumption | refine Ext.alloc ?_ _ | refine Ext.drewN ?_ _ | refine Ext.drew ?_)))).mono ?_
    rintro e w1 ⟨v1, rfl, o1, y⟩
    have hx1 := Lib.hid (Ext.trans (show Ext w _ by (repeat (first | exact Ext.refl _ | assumption | refine Ext.alloc ?_ _ | refine Ext.drewN ?_ _ | refine Ext.drew ?_))) y)
    obtain ⟨a1, c1, rfl, -⟩ := o1.shape
    have O1 := Lib.hid o1
    have hz1 := hx1.out.size
    clear y o1 hv
    go_wp2_with fail
    refine (sKatValid_c a1 c1 K _ (O1.out.ints.ext (by (repeat (first | exact Ext.refl _ | assumption | refine Ext.alloc ?_ _ | refine Ext.drewN ?_ _ | refine Ext.drew ?_)))) (by omega)).mono ?_
    rw [hkv.out]
    rintro e w' ⟨rfl, rfl⟩
    by_cases hf : K.length ≤ 40
    · have hF := Lib.hid (hfy.out hf)
      rw [decide_eq_true hf]
      clear hfy hfn hkv
      go_wp2_with fail
      refine (hc.out _ (by first | exact hx1.out | exact hx1.out.trans (by (repeat (first | exact Ext.refl _ | assumption | refine Ext.alloc ?_ _ | refine Ext.drewN ?_ _ | refine Ext.drew ?_))))).mono ?_
      rintro e w2 ⟨v2, rfl, o2, y⟩
      have hx2 := Lib.hid (hx1.out.trans (Ext.trans (show Ext w1 _ by (repeat (first | exact Ext.refl _ | assumption | refine Ext.alloc ?_ _ | refine Ext.drewN ?_ _ | refine Ext.drew ?_))) y))
      have O2 := Lib.hid (o2.mono (B' := w.heap.size) (by first | omega | (simp; omega)))
      clear o2 y
      go_wp2
      go_ret2
      exact ⟨_, by rw [hF.out.2]; rfl, by rw [hF.out.1]; exact O2.out.ext (by (repeat (first | exact Ext.refl _ | assumption | refine Ext.alloc ?_ _ | refine Ext.drewN ?_ _ | refine Ext.drew ?_))), hx2.out.trans (by (repeat (first | exact Ext.refl _ | assumption | refine Ext.alloc ?_ _ | refine Ext.drewN ?_ _ | refine Ext.drew ?_)))⟩
    · have hF := Lib.hid (hfn.out hf)
      rw [decide_eq_false hf]
      clear hfy hfn hkv
      go_wp2
      go_ret2
      exact ⟨_, by rw [hF.out.2]; rfl, by rw [hF.out.1]; exact (OwnI.empty _ _).mono hz1, hx1.out.trans (by (repeat (first | exact Ext.refl _ | assumption | refine Ext.alloc ?_ _ | refine Ext.drewN ?_ _ | refine Ext.drew ?_)))⟩
set_option maxHeartbeats 1000000 in
theorem iProgKat_c (a : Option Addr) (cap : Nat) (l : List Int) (L : List Int) (ok : Bool) (w : World) (hl : IntsAt w a l) (hlen : l.length ≤ 4194304) (hp : KcAt l L ok) :
    Calls Try.prog 42 #[.slice a l.length cap] w (RetIB w L ok) := by
  have HL := Lib.hid hl
  clear hl
  go_enter Try.func42, Try.ntmps42
  go_wp2_with fail
  refine (readProgram_c a cap l _ (HL.out.ext (by (repeat (first | exact Ext.refl _ | assumption | refine Ext.alloc ?_ _ | refine Ext.drewN ?_ _ | refine Ext.drew ?_)))) hlen).mono ?_
  rintro e w1 ⟨⟨v, rfl, hv⟩, y⟩
  have hx1 := Lib.hid (Ext.trans (show Ext w _ by (repeat (first | exact Ext.refl _ | assumption | refine Ext.alloc ?_ _ | refine Ext.drewN ?_ _ | refine Ext.drew ?_))) y)
  have hz1 := hx1.out.size
  clear y
  rcases hp with ⟨hv0, rfl, rfl⟩ | ⟨hv1, t, hg, hw, h16, rfl, rfl⟩
  · obtain rfl : v = .nilIface := by
      rcases hv with ⟨h, _⟩ | ⟨_, h⟩
      · rw [h] at hv0; cases hv0
      · exact h
    clear hv hv0
    have q := pEqlNil
    go_wp2
    go_ret2
    exact RetIB.void (OwnI.nil _ _ _) (hx1.out.trans (by (repeat (first | exact Ext.refl _ | assumption | refine Ext.alloc ?_ _ | refine Ext.drewN ?_ _ | refine Ext.drew ?_))))
  · obtain rfl : v = pv t := by
      rcases hv with ⟨_, u, hgu, hwu, h⟩ | ⟨h, _⟩
      · rw [h, Pt.words_inj hgu hg (hwu.trans hw.symm)]
      · rw [h] at hv1; cases hv1
    have hcall : Hid (∀ w', Calls Try.prog (katF t) #[ptV t] w' (RetK w' t.kat)) := fun w' => katI_c t hg w'
    have h1 := katF_meth t
    have h2 := katF_call t
    have q := pEqlHeld
    rw [pv_eq t]
    clear hv hw hg hv1
    generalize ptT t = T at *
    generalize ptV t = V at *
    generalize katF t = F at *
    go_wp2_with fail
    refine (hcall.out _).mono ?_
    rintro e w2 ⟨v2, rfl, o2, y⟩
    have hx2 := Lib.hid (hx1.out.trans (Ext.trans (show Ext w1 _ by (repeat (first | exact Ext.refl _ | assumption | refine Ext.alloc ?_ _ | refine Ext.drewN ?_ _ | refine Ext.drew ?_))) y))
    have O2 := Lib.hid (o2.mono (B' := w.heap.size) (by first | omega | (simp; omega)))
    clear y o2
    go_wp2
    go_ret2
    exact ⟨_, rfl, O2.out.ext (by (repeat (first | exact Ext.refl _ | assumption | refine Ext.alloc ?_ _ | refine Ext.drewN ?_ _ | refine Ext.drew ?_))), hx2.out.trans (by (repeat (first | exact Ext.refl _ | assumption | refine Ext.alloc ?_ _ | refine Ext.drewN ?_ _ | refine Ext.drew ?_)))⟩
set_option maxHeartbeats 2000000 in
theorem fnExactProgKat_c (a : Option Addr) (cap : Nat) (l : List Int) (w : World) (hl : IntsAt w a l) (hlen : l.length ≤ 9223372036854775807) :
    Calls Try.prog 11 #[.slice a l.length cap] w fun e w' => e = .returned (.bool true) ∧ Ext w w' := by
  by_cases hb : l.length ≤ 1048576
  · have hq : (l == l) = true := by simp
    have hs : l.length ≤ 4611686018427387904 := by omega
    obtain ⟨L, ok, hp, hL⟩ := kcAt l
    have HP := Lib.hid hp
    have hLq : (L == L) = true := by simp
    have hL4 : L.length ≤ 4611686018427387904 := by omega
    have hok : (ok != ok) = false := by cases ok <;> rfl
    have hx := Ext.refl w
    have HL := Lib.hid hl
    clear hp hl
    go_enter Try.func11, Try.ntmps11
    go_wp2_with fail
    refine (toIntS_c a cap l _ HL.out (by omega)).mono ?_
    rintro e w1 ⟨v1, rfl, o1, y⟩
    obtain ⟨a1, c1, rfl, -⟩ := o1.shape
    have O1 := Lib.hid o1
    replace hx := hx.trans y
    clear o1 y
    go_wp2_with fail
    refine (sProgKat_c a1 c1 l L ok _ O1.out.ints (by omega) (ownI_cap O1.out) HP.out).mono ?_
    rintro e w2 ⟨vW, rfl, oW, y⟩
    obtain ⟨aW, cW, rfl, -⟩ := oW.shape
    have hBW := hx.size
    replace hx := hx.trans y
    clear y O1
    go_wp2_with fail
    refine (toIntS_c a cap l _ (HL.out.ext hx) (by omega)).mono ?_
    rintro e w3 ⟨vx, rfl, ox, y⟩
    obtain ⟨ax, cx, rfl, -⟩ := ox.shape
    have apWx := Lib.hid (own_apart oW ox (Nat.le_refl _))
    have hBx := hx.size
    replace oW := oW.ext y
    replace hx := hx.trans y
    clear y
    go_wp2_with fail
    refine (iProgKat_c ax cx l L ok _ ox.ints (by omega) HP.out).mono ?_
    rintro e w4 ⟨vG, rfl, oG, y⟩
    obtain ⟨aG, cG, rfl, -⟩ := oG.shape
    have apWG := Lib.hid (own_apart oW oG (Nat.le_refl _))
    have apxG := Lib.hid (own_apart ox oG (Nat.le_refl _))
    have hBG := hx.size
    replace oW := oW.ext y
    replace ox := ox.ext y
    replace hx := hx.trans y
    clear y
    go_wp2_with fail
    refine (eqIntS_c aG aW cG cW L L _ oG.ints oW.ints hL4 hL4).mono ?_
    rintro e w5 ⟨rfl, y⟩
    replace oW := oW.ext y
    replace ox := ox.ext y
    replace oG := oG.ext y
    replace hx := hx.trans y
    clear y
    go_wp2_with fail
    refine (toIntS_c a cap l _ (HL.out.ext hx) (by omega)).mono ?_
    rintro e w6 ⟨vu, rfl, ou, y⟩
    obtain ⟨au, cu, rfl, -⟩ := ou.shape
    replace oW := oW.ext y
    replace ox := ox.ext y
    replace oG := oG.ext y
    replace hx := hx.trans y
    clear y
    go_wp2_with fail
    refine (eqIntS_c ax au cx cu l l _ ox.ints ou.ints hs hs).mono ?_
    rintro e w7 ⟨rfl, y⟩
    replace oW := oW.ext y
    replace ox := ox.ext y
    replace oG := oG.ext y
    replace hx := hx.trans y
    clear y ou
    go_wp2_with fail
    refine (markIntS_c ax _ cx _ l 1 _ ox (by omega) (by omega) (by omega)).mono ?_
    rintro e w8 ⟨rfl, om, hg⟩
    replace oW := OwnI.kept oW hg apWx.out.1
    replace oG := OwnI.kept oG hg apxG.out.2
    have y := OwnI.grown (OwnI.mono ox hBx) hx hg
    clear hx; have hx := y; clear y
    clear om hg ox
    go_wp2_with fail
    refine (eqIntS_c aG aW cG cW L L _ oG.ints oW.ints hL4 hL4).mono ?_
    rintro e w9 ⟨rfl, y⟩
    replace oW := oW.ext y
    replace oG := oG.ext y
    replace hx := hx.trans y
    clear y
    go_wp2_with fail
    refine (markIntS_c aG _ cG _ L 1 _ oG (by omega) (by omega) (by omega)).mono ?_
    rintro e w10 ⟨rfl, om, hg⟩
    replace oW := OwnI.kept oW hg apWG.out.1
    have y := OwnI.grown (OwnI.mono oG hBG) hx hg
    clear hx; have hx := y; clear y
    replace oG := om
    clear om hg
    go_wp2_with fail
    refine (heldIntS_c aG _ cG 1 _ oG.ints (by omega) (by omega) (by omega)).mono ?_
    rintro e w11 ⟨rfl, rfl⟩
    go_wp2_with fail
    refine (toIntS_c a cap l _ (HL.out.ext hx) (by omega)).mono ?_
    rintro e w12 ⟨vz, rfl, oz, y⟩
    obtain ⟨az, cz, rfl, -⟩ := oz.shape
    have OZ := Lib.hid oz
    replace oW := oW.ext y
    replace oG := oG.ext y
    replace hx := hx.trans y
    clear y oz
    go_wp2_with fail
    refine (iProgKat_c az cz l L ok _ OZ.out.ints (by omega) HP.out).mono ?_
    rintro e w13 ⟨vH, rfl, oH, y⟩
    obtain ⟨aH, cH, rfl, iH⟩ := oH.shape
    replace oW := oW.ext y
    replace oG := oG.ext y
    replace hx := hx.trans y
    clear y OZ oH
    go_wp2_with fail
    refine (eqIntS_c aH aW cH cW L L _ iH oW.ints hL4 hL4).mono ?_
    rintro e w14 ⟨rfl, y⟩
    replace oG := oG.ext y
    replace hx := hx.trans y
    clear y iH oW
    go_wp2_with fail
    refine (heldIntS_c aG _ cG 1 _ oG.ints (by omega) (by omega) (by omega)).mono ?_
    rintro e w15 ⟨rfl, rfl⟩
    go_wp2
    go_ret
    exact ⟨rfl, hx⟩
  · go_enter Try.func11, Try.ntmps11
    go_wp2
    go_ret
    exact ⟨rfl, Ext.refl _⟩
end Go.Proofs.Ytnhdachenckceaa
