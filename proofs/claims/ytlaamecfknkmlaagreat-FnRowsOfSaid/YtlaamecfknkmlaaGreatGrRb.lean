/- Merged texts: contracts and plain lemmas (Rb). -/
import Derived.Test.YtlaamecfknkmlaaGreatGr2
import Derived.Test.YtlaamecfknkmlaaGreatGr1
import Derived.Test.YtlaamecfknkmlaaGreatGr3
import Derived.Test.YtlaamecfknkmlaaGreatGrRg
/- Plain laws of rows, as FnRowsOf wants them: equal expressions, models and expressions backwards. No program in sight. -/
namespace Go.Proofs.YtlaamecfknkmlaaGreat
set_option linter.unusedVariables false
open Go.RowKit Go.Kt
theorem treeOf_wordsL {t : Kt} (hg : t.Good) (hl : t.words.length ≤ 40) : treeOf t.words = t := by
  have hk := kvB_words_true hg hl
  obtain ⟨h1, h2⟩ := treeOf_valid hk
  exact Kt.words_inj h1 hg h2
theorem ok_rowsF {st : Nat} {p q : Int} {ll : List (List Int)} {e f : List Int} {L : List (List Int)} (hm : mvB st p q ll = true) (h : Ok e f L) : rowsF st p q ll e = rowsF st p q ll f := by
  obtain ⟨sn, P, Q, hsn, rfl, rfl, b1, b2, b3, b4, b5, b6, b7, b8⟩ := mvB_bounds hm
  obtain rfl : st = sn := by omega
  have ke := (auB_kv h.a).1
  have kf := (auB_kv h.b).1
  obtain ⟨s, hs, rfl⟩ := kvB_tree ke
  obtain ⟨t, ht, rfl⟩ := kvB_tree kf
  unfold rowsF
  rw [hm, ke, kf, treeOf_wordsL hs (kvB_len ke).2, treeOf_wordsL ht (kvB_len kf).2]
  simp only [Bool.and_self, if_true, Int.toNat_natCast]
  exact h.rows hs ht b2 (fun i hi => rvB_relK (b8 i hi))
theorem katB_back {e : List Int} (h : kvB e = true) {k : List Int} (hk : k = (treeW e).back.words) : kvB k = true ∧ treeOf k = (treeOf e).back := by
  obtain ⟨t, ht, rfl⟩ := kvB_tree h
  have hl := (kvB_len h).2
  rw [treeW_words ht] at hk
  subst hk
  rw [treeOf_wordsL ht hl]
  have h1 := t.back_good ht
  have h2 : t.back.words.length ≤ 40 := by rw [t.back_len]; exact hl
  exact ⟨kvB_words_true h1 h2, treeOf_wordsL h1 h2⟩
theorem rows_back {st : Nat} {p q : Int} {ll : List (List Int)} {e k : List Int} (hm : mvB st p q ll = true) (he : kvB e = true) (hk : k = (treeW e).back.words) :
    rowsF (mbI st p q ll st) (mbI st p q ll p) (mbI st p q ll q) (mbL st p q ll) k = backF st (rowsF st p q ll e) := by
  obtain ⟨e1, e2, e3, hv2, -⟩ := mb_back hm
  obtain ⟨hk1, hk2⟩ := katB_back he hk
  rw [e1, e2, e3]
  have hL := mbL_val hm
  obtain ⟨sn, P, Q, hsn, rfl, rfl, b1, b2, b3, b4, b5, b6, b7, b8⟩ := mvB_bounds hm
  obtain rfl : st = sn := by omega
  obtain ⟨hg, hw⟩ := treeOf_valid he
  have hll : ∀ i, i < 3 → Rel st (rowI ll i) := fun i hi => rvB_relK (b8 i hi)
  have hmm : ∀ i, i < 3 → rowI (mbL st P Q ll) i = backTo (rowI ll i) (rowI ll i).length := fun i hi => by
    rw [hL, mapRows_row _ _ _ _ (by omega)]
    unfold backF
    rw [if_pos (b8 i hi)]
  have hr := (treeOf e).rows_rel P Q st ll (by omega) hll hg
  have h1 := back_rows P Q st ll (mbL st P Q ll) b2 hll hmm (treeOf e) hg
  unfold rowsF
  rw [hm, he, hv2, hk1, hk2]
  simp only [Bool.and_self, if_true, Int.toNat_natCast]
  rw [h1]
  unfold backF
  rw [if_pos (rvB_rel (by omega) (by omega) hr)]
end Go.Proofs.YtlaamecfknkmlaaGreat
