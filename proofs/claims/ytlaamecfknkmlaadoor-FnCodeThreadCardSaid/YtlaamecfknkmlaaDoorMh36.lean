/- Merged texts: contracts and plain lemmas (LExactProgCode). -/
import Derived.Test.YtlaamecfknkmlaaDoorMh35
/- For every list: the program's ProgCode answers what the reference's does, leaves the list alone, and shares no memory (FnExactProgCode). -/
namespace Go.Proofs.YtlaamecfknkmlaaDoor
set_option linter.unusedVariables false
open Go.RowKit Go.Kt

/-- What a call that makes a slice of instructions, and a truth, comes to. -/
def RetFB (w : World) (n : Nat) (L : List Int) (ok : Bool) (e : Ending) (w' : World) : Prop := ∃ v, e = .returned (.tuple #[v, .bool ok]) ∧ OwnF w' w.heap.size 61 v n L ∧ Ext w w'
/-- What ProgCode answers. -/
def PcAt (l : List Int) (n : Nat) (L : List Int) (ok : Bool) : Prop :=
  (pvB l = false ∧ n = 0 ∧ L = [] ∧ ok = false) ∨ (pvB l = true ∧ ∃ t : Pt, t.Good ∧ t.words = l ∧ l.length ≤ 16 ∧ ((t.many + 1 ≤ 40 ∧ n = t.many + 1 ∧ L = t.code 0 ++ [3, 0, 0] ∧ ok = true) ∨ (40 < t.many + 1 ∧ n = 0 ∧ L = [] ∧ ok = false)))
theorem pcAt (l : List Int) : ∃ n L ok, PcAt l n L ok ∧ n ≤ 40 ∧ L.length = n * 3 := by
  cases h : pvB l
  · exact ⟨0, [], false, .inl ⟨h, rfl, rfl, rfl⟩, by omega, rfl⟩
  · obtain ⟨t, hg, hw, hl⟩ := pvB_tree h
    by_cases hm : t.many + 1 ≤ 40
    · exact ⟨_, _, true, .inr ⟨h, t, hg, hw, hl, .inl ⟨hm, rfl, rfl, rfl⟩⟩, hm, by rw [List.length_append, t.code_length]; simp; omega⟩
    · exact ⟨0, [], false, .inr ⟨h, t, hg, hw, hl, .inr ⟨by omega, rfl, rfl, rfl⟩⟩, by omega, rfl⟩
theorem RetFB.void {w w' : World} {v : Value} (hv : OwnF w' w.heap.size 61 v 0 []) (hx : Ext w w') : RetFB w 0 [] false (.returned (.tuple #[v, .bool false])) w' := ⟨v, rfl, hv, hx⟩

set_option maxHeartbeats 1000000 in
theorem sProgCode_c (a : Option Addr) (cap : Nat) (l : List Int) (n : Nat) (L : List Int) (ok : Bool) (w : World) (hl : IntsAt w a l) (hlen : l.length ≤ 4194304) (hcap : l.length ≤ cap) (hp : PcAt l n L ok) :
    Calls Tryd.prog 61 #[.slice a l.length cap] w (RetFB w n L ok) := by
  have HL := Lib.hid hl
  rcases hp with ⟨hv, rfl, rfl, rfl⟩ | ⟨hv, t, hg, hw, h16, hk⟩
  · clear hl
    go_enter Tryd.func61, Tryd.ntmps61
    go_wp2_with fail
    refine (sProgValid_c a cap l _ (HL.out.ext (by (repeat (first | exact Ext.refl _ | assumption | refine Ext.alloc ?_ _ | refine Ext.drewN ?_ _ | refine Ext.drew ?_)))) hlen).mono ?_
    rw [hv]
    rintro e w' ⟨rfl, rfl⟩
    go_wp2
    go_ret2
    exact RetFB.void (OwnF.empty _ _) (by (repeat (first | exact Ext.refl _ | assumption | refine Ext.alloc ?_ _ | refine Ext.drewN ?_ _ | refine Ext.drew ?_)))
  · have hpos := t.words_pos
    have hml := t.many_le
    have hl2 := hl
    obtain ⟨b, off, h1, h2⟩ := hl2
    obtain ⟨rfl, hb⟩ := h1 (by rw [← hw]; omega)
    have hc : Hid (∀ w', Ext w w' → Calls Tryd.prog 74 #[.slice (some ⟨b, off, none⟩) l.length cap, .int .i64 0] w' (RetF 61 w' t.many (t.code 0))) := fun w' hx => by
      have := l8Code_c t hg b off cap 0 0 w' rfl (by rw [hw]; exact HL.out.ext hx) (by rw [hw]; exact hcap) (by rw [hw]; exact h16) (by rw [hw]; omega)
      rw [hw] at this
      exact this
    have hm : t.many ≤ 32 := by rw [hw] at hml; omega
    have HK := Lib.hid hk
    clear hl h1 h2 hml hpos hw hk
    go_enter Tryd.func61, Tryd.ntmps61
    go_wp2_with fail
    refine (sProgValid_c _ cap l _ (HL.out.ext (by (repeat (first | exact Ext.refl _ | assumption | refine Ext.alloc ?_ _ | refine Ext.drewN ?_ _ | refine Ext.drew ?_)))) hlen).mono ?_
    rw [hv]
    rintro e w' ⟨rfl, rfl⟩
    go_wp2_with fail
    refine (hc.out _ (by (repeat (first | exact Ext.refl _ | assumption | refine Ext.alloc ?_ _ | refine Ext.drewN ?_ _ | refine Ext.drew ?_)))).mono ?_
    rintro e w1 ⟨v1, rfl, o1, y⟩
    have hx1 := Ext.trans (show Ext w _ by (repeat (first | exact Ext.refl _ | assumption | refine Ext.alloc ?_ _ | refine Ext.drewN ?_ _ | refine Ext.drew ?_))) y
    obtain ⟨a1, c1, rfl, i1⟩ := o1.shape
    have O1 := Lib.hid (o1.mono (B' := w.heap.size) (by simp))
    have HX1 := Lib.hid hx1
    have hz1 := hx1.size
    clear y hx1 i1 o1 hv
    generalize t.many = m at *
    go_wp2_with (at_builtin; refine any_append_inss (by rfl) _ _ _ rfl (w.heap.size) 61 Tryd.underlying35 infoIns _ (m) (_) rfl (O1.out.ext (by (repeat (first | exact Ext.refl _ | assumption | refine Ext.alloc ?_ _ | refine Ext.drewN ?_ _ | refine Ext.drew ?_)))) _ (1) _ ([3, 0, 0]) rfl (by first | exact (OwnF.lit _ _ _ _ _ _ (Nat.le_refl _)).flat | exact ((OwnF.lit _ _ _ _ _ _ (Nat.le_refl _)).flat).ext (by (repeat (first | exact Ext.refl _ | assumption | refine Ext.alloc ?_ _ | refine Ext.drewN ?_ _ | refine Ext.drew ?_)))) (by omega) (by first | omega | (simp; done) | (simp; omega)) ?_)
    intro v2 w2 o2 g2
    have hx2 := Lib.hid (Ext.row (HX1.out.trans (by (repeat (first | exact Ext.refl _ | assumption | refine Ext.alloc ?_ _ | refine Ext.drewN ?_ _ | refine Ext.drew ?_)))) g2 (fun k hk => (World.ownsRow.lt O1.out k hk).1))
    obtain ⟨a2, c2, rfl⟩ := o2.shape'
    have O2 := Lib.hid o2
    have hz2 := hx2.out.size
    clear o2 g2
    rcases HK.out with ⟨hm40, rfl, rfl, rfl⟩ | ⟨hm40, rfl, rfl, rfl⟩
    · go_wp2
      go_ret2
      exact ⟨_, rfl, O2.out.ext (by (repeat (first | exact Ext.refl _ | assumption | refine Ext.alloc ?_ _ | refine Ext.drewN ?_ _ | refine Ext.drew ?_))), hx2.out.trans (by (repeat (first | exact Ext.refl _ | assumption | refine Ext.alloc ?_ _ | refine Ext.drewN ?_ _ | refine Ext.drew ?_)))⟩
    · omega
theorem ownI_cap {w : World} {B E n cap : Nat} {a : Option Addr} {l : List Int} (h : OwnI w B E (.slice a n cap) l) : l.length ≤ cap := by
  have := h.len
  subst this
  exact own_capv h
end Go.Proofs.YtlaamecfknkmlaaDoor
