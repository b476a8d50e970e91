/- Merged texts: contracts and plain lemmas (Rz). -/
import Derived.Test.YtlaamecfknkmlaaDoorMg22
import Derived.Test.YtlaamecfknkmlaaDoorMg23
import Derived.Test.YtlaamecfknkmlaaDoorMg26
/- Contracts: the program's reader of expressions: loops. -/
namespace Go.Proofs.YtlaamecfknkmlaaDoor
set_option linter.unusedVariables false
open Go.RowKit Go.Kt

/-- Where the reader of block g stands. -/
def posOf (w : World) (g : Nat) : Nat := (intOf ((w.cell? ⟨g, 1, none⟩).getD undef)).toNat
theorem Kr.posOf {w : World} {g p : Nat} {s : ByteArray} (h : Kr w g s p) : posOf w g = p := by
  unfold Proofs.YtlaamecfknkmlaaDoor.posOf; rw [h.pos]; simp [intOf]
theorem Kr.row {w w' : World} {g p : Nat} {s : ByteArray} {row : Option Nat} (h : Kr w g s p) (hg : w.grownBy w' row) (hne : ∀ k, row = some k → k ≠ g) : Kr w' g s p := by
  have hb : w'.heap[g]? = w.heap[g]? := hg.block g h.lt (fun e => hne g e.symm rfl)
  exact ⟨(World.cell?_of_block (a := ⟨g, 0, none⟩) hb).trans h.src, (World.cell?_of_block (a := ⟨g, 1, none⟩) hb).trans h.pos, Nat.lt_of_lt_of_le h.lt hg.size, fun o => (World.frozen?_of_block (a := ⟨g, o, none⟩) hb).trans (h.thaw.2 o)⟩
/-- A loop's state: it has read l, and stands at q. -/
structure LoopSt (w wr : World) (g : Nat) (s : ByteArray) (q : Nat) (v : Value) (l : List Int) : Prop where
  hg : g < w.heap.size
  own : OwnI wr w.heap.size 3 v l
  hq : q ≤ s.size
  kr : Kr wr g s q
  tch : Touched w wr g (g + 1)
theorem LoopSt.ext {w wr w' : World} {g q : Nat} {s : ByteArray} {v : Value} {l : List Int} (h : LoopSt w wr g s q v l) (e : Ext wr w') : LoopSt w w' g s q v l := ⟨h.hg, h.own.ext e, h.hq, h.kr.ext e, h.tch.trans (Touched.of_ext e)⟩
/-- A step of the reader. -/
theorem LoopSt.drawn {w wr w' : World} {g q q' : Nat} {s : ByteArray} {v : Value} {l : List Int} (h : LoopSt w wr g s q v l) (t : Touched wr w' g (g + 1)) (k : Kr w' g s q') (hq : q' ≤ s.size) : LoopSt w w' g s q' v l :=
  ⟨h.hg, OwnI.drawn h.own t h.hg, hq, k, h.tch.trans t⟩
/-- An append to a slice of the call's own. -/
theorem LoopSt.more {w wr wx w' : World} {g q : Nat} {s : ByteArray} {v v' vr : Value} {l M N : List Int} (h : LoopSt w wr g s q v l) (e : Ext wr wx) (ho : OwnI wx w.heap.size 3 vr N) (o : OwnI w' w.heap.size 3 v' M) (hgr : wx.grownBy w' vr.ownBlock) : LoopSt w w' g s q v' M := by
  have hb := fun k hk' => (World.ownsRow.lt ho k hk').1
  exact ⟨h.hg, o, h.hq, Kr.row (h.kr.ext e) hgr (fun k hk' => by have := hb k hk'; have := h.hg; omega), Touched.row (h.tch.trans (Touched.of_ext e)) hgr hb⟩
set_option maxRecDepth 100000 in
set_option maxHeartbeats 400000 in
theorem star_c (W0 : World) (g : Nat) (s : ByteArray) (sub : Rdr) (D : Nat) (hg0 : W0.heap.size ≤ g) (hs : s.size ≤ 199) (hf : FitsR sub) (H : SubC W0 g s 76 (rSingle sub) D) :
    SubC W0 g s 72 (rStar sub) D := by
  intro p w hx hk hp hd
  have HC : Hid (Calls Tryd.prog 76 #[.pointer (some ⟨g, 0, none⟩)] w (RetR w g s (rSingle sub ((bs s).drop p)))) := H p w hx hk hp hd
  have HX := Lib.hid hx
  have zg := hk.lt
  obtain ⟨o, hO⟩ : ∃ o, Hid (o = rStar sub ((bs s).drop p)) := ⟨_, rfl⟩
  rw [← hO.out]
  clear H hx hk
  cases hr : rSingle sub ((bs s).drop p) with
  | none =>
    rw [hr] at HC
    have HV : Hid (o = none) := by unfold Hid; rw [hO.out]; simp only [rStar]; rw [hr]
    clear hO hr
    go_enter Tryd.func72, Tryd.ntmps72
    go_wp2_with fail
    refine HC.out.mono ?_
    rintro e w1 ⟨ht1, rfl⟩
    have HT := Lib.hid ht1
    clear ht1
    go_wp2
    exact ⟨rfl, by rw [HV.out]; exact RetR.no HT.out⟩
  | some x =>
    obtain ⟨l, r⟩ := x
    rw [hr] at HC
    have HV : Hid (o = stars l r) := by unfold Hid; rw [hO.out]; simp only [rStar]; rw [hr]
    have HB : Hid (l.length + r.length ≤ 199) := Nat.le_trans (single_fits hf _ _ _ hr) (by rw [List.length_drop, bs_len]; omega)
    clear hO hr
    go_enter Tryd.func72, Tryd.ntmps72
    go_wp2_with fail
    refine HC.out.mono ?_
    rintro e w1 ⟨ht1, v, q, rfl, ho, hq, hqs, hk1⟩
    have HS : Hid (LoopSt w w1 g s q v l) := ⟨zg, ho, hqs, hk1, ht1⟩
    clear ht1 ho hk1
    go_wp2
    go_loopw [3] (fun v wr => Hid (∃ l q, o = stars l ((bs s).drop q) ∧ l.length + ((bs s).drop q).length ≤ 199 ∧ LoopSt w wr g s q v l)) (fun _ wr => s.size - posOf wr g)
    case atStart => exact Lib.hid ⟨l, q, by rw [HV.out, hq], by rw [hq]; exact HB.out, HS.out⟩
    case round =>
      obtain ⟨l, q, ho, hb, hs2⟩ := hrel.out
      clear hrel HS HV HB
      obtain ⟨av, cv, rfl, -⟩ := hs2.own.shape
      have hll := hs2.own
      have HL := Lib.hid hs2
      have HO := Lib.hid ho
      have hqs2 := hs2.hq
      have CT := take_c g q s 42 42 rfl wr hs2.kr hs hs2.hq
      have zgr := hs2.kr.lt
      clear hs2 ho hll
      cases hh : hitB s q 42
      · rw [hh] at CT
        have CT2 : Hid (Calls Tryd.prog 60 #[.pointer (some ⟨g, 0, none⟩), .int .u8 42] wr (RetB wr g s q false)) := CT
        have HV : Hid (o = some (l, (bs s).drop q)) := HO.out.trans (stars_end _ _ (by unfold hitB at hh; intro e; rw [e] at hh; simp at hh))
        clear CT hh
        go_wp2_with fail
        refine CT2.out.mono ?_
        rintro e w2 ⟨rfl, hk2, ht2⟩
        have HL2 := Lib.hid (HL.out.drawn ht2 hk2 hqs2)
        clear hk2 ht2
        go_wp2
        go_ret
        rw [HV.out]
        exact RetR.yes HL2.out.tch HL2.out.own rfl hqs2 HL2.out.kr
      · rw [hh] at CT
        have CT2 : Hid (Calls Tryd.prog 60 #[.pointer (some ⟨g, 0, none⟩), .int .u8 42] wr (RetB wr g s (q + 1) true)) := CT
        have hlt : q < s.size := by
          by_cases h : q < s.size
          · exact h
          · rw [hit_out h] at hh; cases hh
        have hb2 : (l ++ [21]).length + ((bs s).drop (q + 1)).length ≤ 199 := by
          rw [drop_at hlt] at hb
          simp only [List.length_append, List.length_cons, List.length_nil] at hb ⊢
          omega
        have HB2 := Lib.hid hb2
        have hl199 : l.length ≤ 199 := by omega
        have hc : s[q] = 42 := by rw [hit_in hlt] at hh; simpa using hh
        have HV : Hid (o = stars (l ++ [21]) ((bs s).drop (q + 1))) := HO.out.trans (by rw [drop_at hlt, hc, stars_star])
        clear CT hh hc HO hb hb2
        go_wp2_with fail
        refine CT2.out.mono ?_
        rintro e w2 ⟨rfl, hk2, ht2⟩
        have HL2 := Lib.hid (HL.out.drawn ht2 hk2 hlt)
        have hz2 := HL2.out.tch.size
        have hpo := HL.out.kr.posOf
        clear hk2 ht2 HL
        go_wp2_with (at_builtin; refine any_append_ints (by rfl) _ _ _ rfl (w.heap.size) 3 Tryd.underlying29 infoInt _ (_) rfl (HL2.out.own.ext (by (repeat (first | exact Ext.refl _ | assumption | refine Ext.alloc ?_ _ | refine Ext.drewN ?_ _ | refine Ext.drew ?_)))) _ _ ([21]) rfl (by first | exact (OwnI.lit1 _ _ _ _ (Nat.le_refl _)).ints | exact ((OwnI.lit1 _ _ _ _ (Nat.le_refl _)).ints).ext (by (repeat (first | exact Ext.refl _ | assumption | refine Ext.alloc ?_ _ | refine Ext.drewN ?_ _ | refine Ext.drew ?_)))) (by first | omega | (simp; omega)) (by first | omega | (simp; done) | (simp; omega)) ?_)
        intro v6 w6 o6 g6
        have HS6 := Lib.hid (HL2.out.more (by (repeat (first | exact Ext.refl _ | assumption | refine Ext.alloc ?_ _ | refine Ext.drewN ?_ _ | refine Ext.drew ?_))) (HL2.out.own.ext (by (repeat (first | exact Ext.refl _ | assumption | refine Ext.alloc ?_ _ | refine Ext.drewN ?_ _ | refine Ext.drew ?_)))) o6 g6)
        have hp6 := HS6.out.kr.posOf
        clear HL2 o6 g6
        go_wp2
        go_roundw
        case rel => exact Lib.hid ⟨l ++ [21], q + 1, HV.out, HB2.out, HS6.out⟩
        case measure => rw [hpo, hp6]; omega
end Go.Proofs.YtlaamecfknkmlaaDoor
