/- Contracts: KatText, on both sides. -/
import Derived.Test.YtcjnihhinnedkaaDoorTy
import Derived.Test.YtcjnihhinnedkaaDoorTw
import Derived.Test.YtcjnihhinnedkaaDoorBd
namespace Go.Kt
/-- The tree of the steps. -/
def treeL (l : List Int) : Kt := (runK l []).headD (.leaf 0)
theorem treeL_words {t : Kt} (h : t.Good) : treeL t.words = t := by unfold treeL; rw [runK_words t h]; rfl
theorem treeL_valid {l : List Int} (h : kvB l = true) : (treeL l).Good ∧ (treeL l).words = l := by
  obtain ⟨t, hg, rfl⟩ := kvB_tree h
  rw [treeL_words hg]; exact ⟨hg, rfl⟩
/-- The text of an expression. -/
def katS (l : List Int) : ByteArray := if kvB l then (treeL l).txt else ⟨#[]⟩
end Go.Kt
namespace Go.Proofs.YtcjnihhinnedkaaDoor
set_option linter.unusedVariables false
open Go.RowKit Go.Kt

theorem iKatText_c (a : Option Addr) (cap : Nat) (l : List Int) (w : World) (hl : IntsAt w a l) (hlen : l.length ≤ 4194304) (hn : NamesW w) :
    Calls Tryd.prog 8 #[.slice a l.length cap] w (RetS w (katS l)) := by
  have HL := Lib.hid hl
  have HN := Lib.hid hn
  cases hv : kvB l
  · have HF : Hid (katS l = ⟨#[]⟩) := by unfold Hid katS; rw [hv]; rfl
    clear hl hn
    go_enter Tryd.func8, Tryd.ntmps8
    go_wp2_with fail
    refine (iKatValid_c a cap l _ HL.out (by omega)).mono ?_
    rw [hv]
    rintro e w1 ⟨rfl, rfl⟩
    go_wp2
    go_ret
    exact ⟨by rw [HF.out]; rfl, Ext.refl _⟩
  · have HF : Hid (katS l = (treeL l).txt) := by unfold Hid katS; rw [hv]; rfl
    obtain ⟨hg, hw⟩ := treeL_valid hv
    have h40 := (kvB_len hv).2
    have CB : Hid (∀ w', Ext w w' → Calls Tryd.prog 21 #[.slice a l.length cap] w' (RetT w' (treeL l))) := fun w' hx => build_c a cap l (treeL l) w' (HL.out.ext hx) hg hw hv
    have CT : Hid (∀ w' g, Ext w w' → TreeAt w' (fun _ => False) (treeL l) g → Calls Tryd.prog 22 #[.pointer (some ⟨g, 0, none⟩)] w' (RetS w' (treeL l).txt)) := fun w' g hx ht =>
      text_c _ hg (by rw [hw]; exact h40) g w' (HN.out.ext hx) ht
    have HV := Lib.hid hv
    clear hl hn hv hg hw
    generalize treeL l = t at *
    go_enter Tryd.func8, Tryd.ntmps8
    go_wp2_with fail
    refine (iKatValid_c a cap l _ HL.out (by omega)).mono ?_
    rw [HV.out]
    rintro e w1 ⟨rfl, rfl⟩
    go_wp2_with fail
    refine (CB.out _ (Ext.refl _)).mono ?_
    rintro e wk ⟨g, rfl, tk, yk⟩
    go_wp2_with fail
    refine (CT.out _ g yk tk).mono ?_
    rintro e wl ⟨rfl, yl⟩
    have HX := Lib.hid (yk.trans yl)
    clear yk yl tk
    go_wp2
    go_ret
    exact ⟨by rw [HF.out]; rfl, HX.out⟩
theorem sKatText_c (a : Option Addr) (cap : Nat) (l : List Int) (w : World) (hl : IntsAt w a l) (hlen : l.length ≤ 4194304) (hcap : l.length ≤ cap) :
    Calls Tryd.prog 6 #[.slice a l.length cap] w (RetS w (katS l)) := by
  have HL := Lib.hid hl
  cases hv : kvB l
  · have HF : Hid (katS l = ⟨#[]⟩) := by unfold Hid katS; rw [hv]; rfl
    clear hl
    go_enter Tryd.func6, Tryd.ntmps6
    go_wp2_with fail
    refine (sKatValid_c a cap l _ HL.out (by omega)).mono ?_
    rw [hv]
    rintro e w1 ⟨rfl, rfl⟩
    go_wp2
    go_ret
    exact ⟨by rw [HF.out]; rfl, Ext.refl _⟩
  · have HF : Hid (katS l = (treeL l).txt) := by unfold Hid katS; rw [hv]; rfl
    obtain ⟨hg, hw⟩ := treeL_valid hv
    have h40 := kvB_len hv
    obtain ⟨b, off, h1, h2⟩ := hl
    obtain ⟨rfl, hb⟩ := h1 (by omega)
    have CT : Hid (∀ w', Ext w w' → Calls Tryd.prog 20 #[.slice (some ⟨b, off, none⟩) l.length cap, .int .i64 0] w' (RetS w' (treeL l).txt)) := fun w' hx => by
      have h := l2Text_c (treeL l) hg b off cap 0 w' (by decide) (by rw [hw]; exact HL.out.ext hx) (by rw [hw]; exact hcap) (by rw [hw]; exact h40.2)
      rw [hw, Kt.br_0] at h
      exact h
    have HV := Lib.hid hv
    clear h1 h2 hv hg hw
    generalize treeL l = t at *
    go_enter Tryd.func6, Tryd.ntmps6
    go_wp2_with fail
    refine (sKatValid_c _ cap l _ HL.out (by omega)).mono ?_
    rw [HV.out]
    rintro e w1 ⟨rfl, rfl⟩
    go_wp2_with fail
    refine (CT.out _ (Ext.refl _)).mono ?_
    rintro e wl ⟨rfl, yl⟩
    go_wp2
    go_ret
    exact ⟨by rw [HF.out]; rfl, yl⟩
end Go.Proofs.YtcjnihhinnedkaaDoor
