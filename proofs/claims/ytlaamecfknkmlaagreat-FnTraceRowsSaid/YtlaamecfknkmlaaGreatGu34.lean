/- Merged texts: contracts and plain lemmas (Act). -/
import Derived.Test.YtlaamecfknkmlaaGreatGu4
import Derived.Test.YtlaamecfknkmlaaGreatGu8
import Derived.Test.YtlaamecfknkmlaaGreatGu10
/- Contracts: actions and tests told apart; a copy of a slice of ints. -/
namespace Go.Proofs.YtlaamecfknkmlaaGreat
set_option linter.unusedVariables false
open Go.RowKit Go.Kt

theorem actB_c (t : Int) (w : World) :
    Calls Tryz.prog 128 #[.int .i64 t] w fun e w' => e = .returned (.bool (inB t 16 18)) ∧ w = w' := by
  by_cases h1 : 16 ≤ t
  all_goals
    go_enter Tryz.func128, Tryz.ntmps128
    go_wp2
    go_ret
    exact ⟨by simp [inB, h1]; try omega, rfl⟩
theorem cloneI_c (a : Option Addr) (cap : Nat) (l : List Int) (w : World) (hl : IntsAt w a l) (hn : 0 < l.length) (hlen : l.length ≤ 4194304) :
    Calls Tryz.prog 135 #[.slice a l.length cap] w (RetI 3 w l) := by
  have HL := Lib.hid hl
  obtain ⟨b, off, h1, -⟩ := hl
  obtain ⟨rfl, hb⟩ := h1 hn
  have hnil : ∀ W : World, (binOp .eql 23 (.slice (some ⟨b, off, none⟩) l.length cap) (.slice none 0 0)).run Tryz.prog W = .ok (.bool false) W := fun W => Lib.run_eql_slice_nil W _ _ (some ⟨b, off, none⟩) l.length cap 0 0 Tryz.underlying23
  clear h1
  go_enter Tryz.func135, Tryz.ntmps135
  go_wp2_with (at_builtin; refine any_append_ints (by rfl) _ _ _ rfl w.heap.size 3 Tryz.underlying23 infoInt _ [] rfl ?ho _ _ l rfl ?hi ?hc ?hB ?_)
  case ho => exact OwnI.empty _ _
  case hi => exact HL.out.ext (by (repeat (first | exact Ext.refl _ | assumption | refine Ext.alloc ?_ _ | refine Ext.drewN ?_ _ | refine Ext.drew ?_)))
  case hc => simp; omega
  case hB => simp
  intro v' w' ho' hg'
  have hx' := OwnI.grown (OwnI.empty w 3) (by (repeat (first | exact Ext.refl _ | assumption | refine Ext.alloc ?_ _ | refine Ext.drewN ?_ _ | refine Ext.drew ?_))) hg'
  have HO := Lib.hid ho'
  clear ho' hg'
  go_wp2
  go_ret
  exact ⟨_, rfl, HO.out, hx'⟩
end Go.Proofs.YtlaamecfknkmlaaGreat
