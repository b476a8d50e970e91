/- For every list: the program's ProgCode answers what the reference's does, leaves the list alone, and shares no memory (FnExactProgCode). -/
import Derived.Test.YtnhdachenckceaaPk
namespace Go.Proofs.Ytnhdachenckceaa
set_option linter.unusedVariables false
open Go.RowKit Go.Kt

/-- What a call that makes a slice of instructions, and a truth, comes to. -/
def RetFB (w : World) (n : Nat) (L : List Int) (ok : Bool) (e : Ending) (w' : World) : Prop := ∃ v, e = .returned (.tuple #[v, .bool ok]) ∧ OwnF w' w.heap.size 49 v n L ∧ Ext w w'
/-- What ProgCode answers. -/
def PcAt (l : List Int) (n : Nat) (L : List Int) (ok : Bool) : Prop :=
  (pvB l = false ∧ n = 0 ∧ L = [] ∧ ok = false) ∨ (pvB l = true ∧ ∃ t : Pt, t.Good ∧ t.words = l ∧ l.length ≤ 16 ∧ ((t.many + 1 ≤ 40 ∧ n = t.many + 1 ∧ L = t.code 0 ++ [3, 0, 0] ∧ ok = true) ∨ (40 < t.many + 1 ∧ n = 0 ∧ L = [] ∧ ok = false)))
theorem pcAt (l : List Int) : ∃ n L ok, PcAt l n L ok ∧ n ≤ 40 ∧ L.length = n * 3 := by
  cases h : pvB l
  · exact ⟨0, [], false, .inl ⟨h, rfl, rfl, rfl⟩, by omega, rfl⟩
  · obtain ⟨t, hg, hw, hl⟩ := pvB_tree h
    by_cases hm : t.many + 1 ≤ 40
    · exact ⟨_, _, true, .inr ⟨h, t, hg, hw, hl, .inl ⟨hm, rfl, rfl, rfl⟩⟩, hm, by rw [List.length_append, t.code_length]; simp; omega⟩
    · exact ⟨0, [], false, .inr ⟨h, t, hg, hw, hl, .inr ⟨by omega, rfl, rfl, rfl⟩⟩, by omega, rfl⟩
theorem RetFB.void {w w' : World} {v : Value} (hv : OwnF w' w.heap.size 49 v 0 []) (hx : Ext w w') : RetFB w 0 [] false (.returned (.tuple #[v, .bool false])) w' := ⟨v, rfl, hv, hx⟩

set_option maxHeartbeats 1000000 in
theorem sProgCode_c (a : Option Addr) (cap : Nat) (l : List Int) (n : Nat) (L : List Int) (ok : Bool) (w : World) (hl : IntsAt w a l) (hlen : l.length ≤ 4194304) (hcap : l.length ≤ cap) (hp : PcAt l n L ok) :
    Calls Try.prog 35 #[.slice a l.length cap] w (RetFB w n L ok) := by
  have HL := Lib.hid hl
  rcases hp with ⟨hv, rfl, rfl, rfl⟩ | ⟨hv, t, hg, hw, h16, hk⟩
  · clear hl
    go_enter Try.func35, Try.ntmps35
    go_wp2_with fail
    refine (sProgValid_c a cap l _ (HL.out.ext (by (repeat (first | exact Ext.refl _ | assumption | refine Ext.alloc ?_ _ | refine Ext.drewN ?_ _ | refine Ext.drew ?_)))) hlen).mono ?_
    rw [hv]
    rintro e w' ⟨rfl, rfl⟩
    go_wp2
    go_ret2
    exact RetFB.void (OwnF.empty _ _) (by (repeat (first | exact Ext.refl _ | assumption | refine Ext.alloc ?_ _ | refine Ext.drewN ?_ _ | refine Ext.drew ?_)))
  · have hpos := t.words_pos
    have hml := t.many_le
    have hl2 := hl
    obtain ⟨b, off, h1, h2⟩ := hl2
    obtain ⟨rfl, hb⟩ := h1 (by rw [← hw]; omega)
    have hc : Hid (∀ w', Ext w w' → Calls Try.prog 64 #[.slice (some ⟨b, off, none⟩) l.length cap, .int .i64 0] w' (RetF 49 w' t.many (t.code 0))) := fun w' hx => by
      have := l8Code_c t hg b off cap 0 0 w' rfl (by rw [hw]; exact HL.out.ext hx) (by rw [hw]; exact hcap) (by rw [hw]; exact h16) (by rw [hw]; omega)
      rw [hw] at this
      exact this
    have hm : t.many ≤ 32 := by rw [hw] at hml; omega
    have HK := Lib.hid hk
    clear hl h1 h2 hml hpos hw hk
    go_enter Try.func35, Try.ntmps35
    go_wp2_with fail
    refine (sProgValid_c _ cap l _ (HL.out.ext (by (repeat (first | exact Ext.refl _ | assumption | refine Ext.alloc ?_ _ | refine Ext.drewN ?_ _ | refine Ext.drew ?_)))) hlen).mono ?_
    rw [hv]
    rintro e w' ⟨rfl, rfl⟩
    go_wp2_with fail
    refine (hc.out _ (by (repeat (first | exact Ext.refl _ | assumption | refine Ext.alloc ?_ _ | refine Ext.drewN ?_ _ | refine Ext.drew ?_)))).mono ?_
    rintro e w1 ⟨v1, rfl, o1, y⟩
    have hx1 := Ext.trans (show Ext w _ by (repeat (first | exact Ext.refl _ | assumption | refine Ext.alloc ?_ _ | refine Ext.drewN ?_ _ | refine Ext.drew ?_))) y
    obtain ⟨a1, c1, rfl, i1⟩ := o1.shape
    have O1 := Lib.hid (o1.mono (B' := w.heap.size) (by simp))
    have HX1 := Lib.hid hx1
    have hz1 := hx1.size
    clear y hx1 i1 o1 hv
    generalize t.many = m at *
    go_wp2_with (at_builtin; refine any_append_inss (by rfl) _ _ _ rfl (w.heap.size) 49 Try.underlying29 infoIns _ (m) (_) rfl (O1.out.ext (by (repeat (first | exact Ext.refl _ | assumption | refine Ext.alloc ?_ _ | refine Ext.drewN ?_ _ | refine Ext.drew ?_)))) _ (1) _ ([3, 0, 0]) rfl (by first | exact (OwnF.lit _ _ _ _ _ _ (Nat.le_refl _)).flat | exact ((OwnF.lit _ _ _ _ _ _ (Nat.le_refl _)).flat).ext (by (repeat (first | exact Ext.refl _ | assumption | refine Ext.alloc ?_ _ | refine Ext.drewN ?_ _ | refine Ext.drew ?_)))) (by omega) (by first | omega | (simp; done) | (simp; omega)) ?_)
    intro v2 w2 o2 g2
    have hx2 := Lib.hid (Ext.row (HX1.out.trans (by (repeat (first | exact Ext.refl _ | assumption | refine Ext.alloc ?_ _ | refine Ext.drewN ?_ _ | refine Ext.drew ?_)))) g2 (fun k hk => (World.ownsRow.lt O1.out k hk).1))
    obtain ⟨a2, c2, rfl⟩ := o2.shape'
    have O2 := Lib.hid o2
    have hz2 := hx2.out.size
    clear o2 g2
    rcases HK.out with ⟨hm40, rfl, rfl, rfl⟩ | ⟨hm40, rfl, rfl, rfl⟩
    · go_wp2
      go_ret2
      exact ⟨_, rfl, O2.out.ext (by (repeat (first | exact Ext.refl _ | assumption | refine Ext.alloc ?_ _ | refine Ext.drewN ?_ _ | refine Ext.drew ?_))), hx2.out.trans (by (repeat (first | exact Ext.refl _ | assumption | refine Ext.alloc ?_ _ | refine Ext.drewN ?_ _ | refine Ext.drew ?_)))⟩
    · omega
set_option maxHeartbeats 1000000 in
theorem iProgCode_c (a : Option Addr) (cap : Nat) (l : List Int) (n : Nat) (L : List Int) (ok : Bool) (w : World) (hl : IntsAt w a l) (hlen : l.length ≤ 4194304) (hp : PcAt l n L ok) :
    Calls Try.prog 36 #[.slice a l.length cap] w (RetFB w n L ok) := by
  have HL := Lib.hid hl
  clear hl
  go_enter Try.func36, Try.ntmps36
  go_wp2_with fail
  refine (readProgram_c a cap l _ (HL.out.ext (by (repeat (first | exact Ext.refl _ | assumption | refine Ext.alloc ?_ _ | refine Ext.drewN ?_ _ | refine Ext.drew ?_)))) hlen).mono ?_
  rintro e w1 ⟨⟨v, rfl, hv⟩, y⟩
  have hx1 := Lib.hid (Ext.trans (show Ext w _ by (repeat (first | exact Ext.refl _ | assumption | refine Ext.alloc ?_ _ | refine Ext.drewN ?_ _ | refine Ext.drew ?_))) y)
  have hz1 := hx1.out.size
  clear y
  rcases hp with ⟨hv0, rfl, rfl, rfl⟩ | ⟨hv1, t, hg, hw, h16, hk⟩
  · obtain rfl : v = .nilIface := by
      rcases hv with ⟨h, _⟩ | ⟨_, h⟩
      · rw [h] at hv0; cases hv0
      · exact h
    clear hv hv0
    have q := pEqlNil
    go_wp2
    go_ret2
    exact RetFB.void (OwnF.nil _ _ _) (hx1.out.trans (by (repeat (first | exact Ext.refl _ | assumption | refine Ext.alloc ?_ _ | refine Ext.drewN ?_ _ | refine Ext.drew ?_))))
  · obtain rfl : v = pv t := by
      rcases hv with ⟨_, u, hgu, hwu, h⟩ | ⟨h, _⟩
      · rw [h, Pt.words_inj hgu hg (hwu.trans hw.symm)]
      · rw [h] at hv1; cases hv1
    have hml := t.many_le
    rw [hw] at hml
    have hm : t.many ≤ 32 := by omega
    have hcall : Hid (∀ w', Calls Try.prog (codeF t) #[ptV t, .int .i64 0] w' (RetF 49 w' t.many (t.code 0))) := fun w' => codeI_c t hg 0 0 w' rfl (by rw [hw]; omega)
    have h1 := codeF_meth t
    have h2 := codeF_call t
    have q := pEqlHeld
    have HK := Lib.hid hk
    rw [pv_eq t]
    clear hv hml hw hk hg hv1
    generalize ptT t = T at *
    generalize ptV t = V at *
    generalize codeF t = F at *
    go_wp2_with fail
    refine (hcall.out _).mono ?_
    rintro e w2 ⟨v2, rfl, o2, y⟩
    have hx2 := Lib.hid (hx1.out.trans (Ext.trans (show Ext w1 _ by (repeat (first | exact Ext.refl _ | assumption | refine Ext.alloc ?_ _ | refine Ext.drewN ?_ _ | refine Ext.drew ?_))) y))
    obtain ⟨a2, c2, rfl, i2⟩ := o2.shape
    have O2 := Lib.hid (o2.mono (B' := w.heap.size) (by first | omega | (simp; omega)))
    have hz2 := hx2.out.size
    clear y i2 o2
    generalize t.many = m at *
    go_wp2_with (at_builtin; refine any_append_inss (by rfl) _ _ _ rfl (w.heap.size) 49 Try.underlying29 infoIns _ (m) (_) rfl (O2.out.ext (by (repeat (first | exact Ext.refl _ | assumption | refine Ext.alloc ?_ _ | refine Ext.drewN ?_ _ | refine Ext.drew ?_)))) _ (1) _ ([3, 0, 0]) rfl (by first | exact (OwnF.lit _ _ _ _ _ _ (Nat.le_refl _)).flat | exact ((OwnF.lit _ _ _ _ _ _ (Nat.le_refl _)).flat).ext (by (repeat (first | exact Ext.refl _ | assumption | refine Ext.alloc ?_ _ | refine Ext.drewN ?_ _ | refine Ext.drew ?_)))) (by omega) (by first | omega | (simp; done) | (simp; omega)) ?_)
    intro v3 w3 o3 g3
    have hx3 := Lib.hid (Ext.row (hx2.out.trans (by (repeat (first | exact Ext.refl _ | assumption | refine Ext.alloc ?_ _ | refine Ext.drewN ?_ _ | refine Ext.drew ?_)))) g3 (fun k hk => (World.ownsRow.lt O2.out k hk).1))
    obtain ⟨a3, c3, rfl⟩ := o3.shape'
    have O3 := Lib.hid o3
    clear o3 g3
    rcases HK.out with ⟨hm40, rfl, rfl, rfl⟩ | ⟨hm40, rfl, rfl, rfl⟩
    · go_wp2
      go_ret2
      exact ⟨_, rfl, O3.out.ext (by (repeat (first | exact Ext.refl _ | assumption | refine Ext.alloc ?_ _ | refine Ext.drewN ?_ _ | refine Ext.drew ?_))), hx3.out.trans (by (repeat (first | exact Ext.refl _ | assumption | refine Ext.alloc ?_ _ | refine Ext.drewN ?_ _ | refine Ext.drew ?_)))⟩
    · omega
theorem ownI_cap {w : World} {B E n cap : Nat} {a : Option Addr} {l : List Int} (h : OwnI w B E (.slice a n cap) l) : l.length ≤ cap := by
  have := h.len
  subst this
  exact own_capv h
set_option maxHeartbeats 2000000 in
theorem fnExactProgCode_c (a : Option Addr) (cap : Nat) (l : List Int) (w : World) (hl : IntsAt w a l) (hlen : l.length ≤ 9223372036854775807) :
    Calls Try.prog 8 #[.slice a l.length cap] w fun e w' => e = .returned (.bool true) ∧ Ext w w' := by
  by_cases hb : l.length ≤ 1048576
  · have hq : (l == l) = true := by simp
    have hs : l.length ≤ 4611686018427387904 := by omega
    obtain ⟨n, L, ok, hp, hn, hL⟩ := pcAt l
    have HP := Lib.hid hp
    have hLn := Lib.hid hL
    have hok : (ok != ok) = false := by cases ok <;> rfl
    have hx := Ext.refl w
    have HL := Lib.hid hl
    have hk1 : (1 : Int) + ((n * 3 : Nat) : Int) ≤ 200 := by omega
    clear hp hL hl
    go_enter Try.func8, Try.ntmps8
    go_wp2_with fail
    refine (toIntS_c a cap l _ HL.out (by omega)).mono ?_
    rintro e w1 ⟨v1, rfl, o1, y⟩
    obtain ⟨a1, c1, rfl, -⟩ := o1.shape
    have O1 := Lib.hid o1
    replace hx := hx.trans y
    clear o1 y
    go_wp2_with fail
    refine (sProgCode_c a1 c1 l n L ok _ O1.out.ints (by omega) (ownI_cap O1.out) HP.out).mono ?_
    rintro e w2 ⟨vW, rfl, oW, y⟩
    obtain ⟨aW, cW, rfl, -⟩ := oW.shape
    have hBW := hx.size
    replace hx := hx.trans y
    clear y O1
    go_wp2_with fail
    refine (toIntS_c a cap l _ (HL.out.ext hx) (by omega)).mono ?_
    rintro e w3 ⟨vx, rfl, ox, y⟩
    obtain ⟨ax, cx, rfl, -⟩ := ox.shape
    have apWx := Lib.hid (own_apart oW ox (Nat.le_refl _))
    have hBx := hx.size
    replace oW := oW.ext y
    replace hx := hx.trans y
    clear y
    go_wp2_with fail
    refine (iProgCode_c ax cx l n L ok _ ox.ints (by omega) HP.out).mono ?_
    rintro e w4 ⟨vG, rfl, oG, y⟩
    obtain ⟨aG, cG, rfl, -⟩ := oG.shape
    have apWG := Lib.hid (own_apart oW oG (Nat.le_refl _))
    have apxG := Lib.hid (own_apart ox oG (Nat.le_refl _))
    have hBG := hx.size
    replace oW := oW.ext y
    replace ox := ox.ext y
    replace hx := hx.trans y
    clear y
    go_wp2_with fail
    refine (eqInsS_c aG aW n cG cW L _ oG.flat oW.flat (by omega)).mono ?_
    rintro e w5 ⟨rfl, y⟩
    replace oW := oW.ext y
    replace ox := ox.ext y
    replace oG := oG.ext y
    replace hx := hx.trans y
    clear y
    go_wp2_with fail
    refine (toIntS_c a cap l _ (HL.out.ext hx) (by omega)).mono ?_
    rintro e w6 ⟨vu, rfl, ou, y⟩
    obtain ⟨au, cu, rfl, -⟩ := ou.shape
    replace oW := oW.ext y
    replace ox := ox.ext y
    replace oG := oG.ext y
    replace hx := hx.trans y
    clear y
    go_wp2_with fail
    refine (eqIntS_c ax au cx cu l l _ ox.ints ou.ints hs hs).mono ?_
    rintro e w7 ⟨rfl, y⟩
    replace oW := oW.ext y
    replace ox := ox.ext y
    replace oG := oG.ext y
    replace hx := hx.trans y
    clear y ou
    go_wp2_with fail
    refine (markIntS_c ax _ cx _ l 1 _ ox (by omega) (by omega) (by omega)).mono ?_
    rintro e w8 ⟨rfl, om, hg⟩
    replace oW := OwnF.kept oW hg apWx.out.1
    replace oG := OwnF.kept oG hg apxG.out.2
    have y := OwnI.grown (OwnI.mono ox hBx) hx hg
    clear hx; have hx := y; clear y
    clear om hg ox
    go_wp2_with fail
    refine (eqInsS_c aG aW n cG cW L _ oG.flat oW.flat (by omega)).mono ?_
    rintro e w9 ⟨rfl, y⟩
    replace oW := oW.ext y
    replace oG := oG.ext y
    replace hx := hx.trans y
    clear y
    go_wp2_with fail
    refine (markInsS_c aG n cG _ L 1 _ oG (by omega) (by omega) (by omega)).mono ?_
    rintro e w10 ⟨rfl, om, hg⟩
    replace oW := OwnF.kept oW hg apWG.out.1
    have y := OwnF.grown (OwnF.mono oG hBG) hx hg
    clear hx; have hx := y; clear y
    replace oG := om
    clear om hg
    go_wp2_with fail
    refine (heldInsS_c aG n cG 1 _ oG.flat (by omega) (by omega) (by omega)).mono ?_
    rintro e w11 ⟨rfl, rfl⟩
    go_wp2_with fail
    refine (toIntS_c a cap l _ (HL.out.ext hx) (by omega)).mono ?_
    rintro e w12 ⟨vz, rfl, oz, y⟩
    obtain ⟨az, cz, rfl, -⟩ := oz.shape
    have OZ := Lib.hid oz
    replace oW := oW.ext y
    replace oG := oG.ext y
    replace hx := hx.trans y
    clear y oz
    go_wp2_with fail
    refine (iProgCode_c az cz l n L ok _ OZ.out.ints (by omega) HP.out).mono ?_
    rintro e w13 ⟨vH, rfl, oH, y⟩
    obtain ⟨aH, cH, rfl, iH⟩ := oH.shape
    replace oW := oW.ext y
    replace oG := oG.ext y
    replace hx := hx.trans y
    clear y OZ oH
    go_wp2_with fail
    refine (eqInsS_c aH aW n cH cW L _ iH oW.flat (by omega)).mono ?_
    rintro e w14 ⟨rfl, y⟩
    replace oG := oG.ext y
    replace hx := hx.trans y
    clear y iH oW
    go_wp2_with fail
    refine (heldInsS_c aG n cG 1 _ oG.flat (by omega) (by omega) (by omega)).mono ?_
    rintro e w15 ⟨rfl, rfl⟩
    go_wp2
    go_ret
    exact ⟨rfl, hx⟩
  · go_enter Try.func8, Try.ntmps8
    go_wp2
    go_ret
    exact ⟨rfl, Ext.refl _⟩
end Go.Proofs.Ytnhdachenckceaa
