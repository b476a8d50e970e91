/- Merged texts: contracts and plain lemmas (Bk). -/
import Derived.Test.YtlaamecfknkmlaaGreatGrYj
import Derived.Test.YtlaamecfknkmlaaGreatGr2
import Derived.Test.YtlaamecfknkmlaaGreatGr1
import Derived.Deep.RegionLaw
import Derived.Deep.AppendLies
/- Contracts: an expression backwards, in the implementation. -/
namespace Go.Kt
set_option linter.unusedVariables false
open Go.RowKit
/-- A node with the kids so far, in a new block. -/
structure BackSt (w wr : World) (E : Nat) (y : Int) (ks : List Kt) (v : Value) (gs : List Nat) : Prop where
  c0 : wr.cell? ⟨w.heap.size, 0, none⟩ = some (.int .i64 y)
  c1 : wr.cell? ⟨w.heap.size, 1, none⟩ = some v
  frz : ∀ i, wr.frozen? ⟨w.heap.size, i, none⟩ = false
  own : wr.ownsRow (w.heap.size + 1) E 1 v ks.length (gs.map ptrV)
  kid : ∀ (i : Nat) (t : Kt) (g : Nat), ks[i]? = some t → gs[i]? = some g → TreeAt wr (fun k => k ≤ w.heap.size ∨ v.ownBlock = some k) t g
  ext : Ext w wr
theorem BackSt.lt {w wr : World} {E : Nat} {y : Int} {ks : List Kt} {v : Value} {gs : List Nat} (h : BackSt w wr E y ks v gs) : w.heap.size < wr.heap.size := lt_of_cell h.c0
theorem BackSt.len {w wr : World} {E : Nat} {y : Int} {ks : List Kt} {v : Value} {gs : List Nat} (h : BackSt w wr E y ks v gs) : gs.length = ks.length := by have := h.own.1; simpa using this
theorem BackSt.off {w wr : World} {E : Nat} {y : Int} {ks : List Kt} {v : Value} {gs : List Nat} (h : BackSt w wr E y ks v gs) : v.ownBlock ≠ some w.heap.size := fun e => by
  have := (World.ownsRow.lt h.own _ e).1; omega
theorem BackSt.push {w wr wk w7 : World} {E : Nat} {y : Int} {ks : List Kt} {v v7 : Value} {gs : List Nat} {u : Kt} {gk : Nat} (h : BackSt w wr E y ks v gs) (x : Ext wr wk) (hk : TreeAt wk (fun k => k < wr.heap.size) u gk)
    (o7 : w7.ownsRow (w.heap.size + 1) E 1 v7 (ks.length + 1) (gs.map ptrV ++ [ptrV gk])) (g7 : wk.grownBy w7 v.ownBlock) (wh : v7.ownBlock = v.ownBlock ∨ v7.ownBlock = some wk.heap.size) :
    BackSt w (w7.setCell ⟨w.heap.size, 1, none⟩ v7) E y (ks ++ [u]) v7 (gs ++ [gk]) := by
  have hlt := h.lt
  have hne : some w.heap.size ≠ v.ownBlock := fun e => h.off e.symm
  have hl := h.len
  have d0 := g7.cell (x.cell' h.c0 hlt) hne
  have d1 := g7.cell (x.cell' h.c1 hlt) hne
  have df : ∀ i, w7.frozen? ⟨w.heap.size, i, none⟩ = false := fun i => by
    have e := g7.block w.heap.size (Nat.lt_of_lt_of_le hlt x.size) hne
    rw [World.frozen?_of_block (a := ⟨w.heap.size, i, none⟩) e, x.cells.2 w.heap.size i hlt]; exact h.frz i
  have hkeep : ∀ (t : Kt) (g : Nat), TreeAt wk (fun k => k ≤ w.heap.size ∨ v.ownBlock = some k) t g → TreeAt (w7.setCell ⟨w.heap.size, 1, none⟩ v7) (fun k => k ≤ w.heap.size ∨ v7.ownBlock = some k) t g := fun t g ht => by
    refine TreeAt.keep (w := wk) (fun k hk hx => ?_) (fun k hk hx => ?_) t g ht
    · rw [heap_setCell_other w7 ⟨w.heap.size, 1, none⟩ k _ (fun e => hx (.inl (by have e : k = w.heap.size := e; omega)))]
      exact g7.block k hk (fun e => hx (.inr e.symm))
    · rcases hx with hx | hx
      · exact .inl hx
      · rcases wh with e | e
        · exact .inr (by rw [← e]; exact hx)
        · rw [e] at hx; have := Option.some.inj hx; omega
  refine ⟨by simp [go_sem, d0], by simp [go_sem, d1], fun i => by simpa using df i, ?_, fun i t g hi hg => ?_, ?_⟩
  · rw [List.length_append, List.map_append]
    exact own_untouched o7 (Touched.setCell w7 _ _) (fun g hg => .inr (by have := (World.ownsRow.lt o7 g hg).1; simp; omega))
  · rcases Nat.lt_or_ge i ks.length with hlt' | hge
    · rw [List.getElem?_append_left hlt'] at hi
      rw [List.getElem?_append_left (by omega)] at hg
      exact hkeep _ _ ((h.kid i t g hi hg).ext x)
    · rw [List.getElem?_append_right hge] at hi
      rw [List.getElem?_append_right (by omega), hl] at hg
      by_cases hz : i - ks.length = 0
      · rw [hz] at hi hg
        simp at hi hg
        subst hi hg
        refine hkeep _ _ (TreeAt.keep (fun k hk _ => rfl) (fun k hk' hx => ?_) u gk hk)
        rcases hx with hx | hx
        · show k < wr.heap.size; omega
        · exact (World.ownsRow.lt h.own k hx).2
      · rw [List.getElem?_eq_none (by simp; omega)] at hi; cases hi
  · exact (Ext.row (h.ext.trans x) g7 (fun k hk => by have := (World.ownsRow.lt h.own k hk).1; omega)).setCell (by simp) _
theorem BackSt.cell {w wr : World} {E : Nat} {y : Int} {ks : List Kt} {v : Value} {gs : List Nat} (h : BackSt w wr E y ks v gs) (h0 : 0 < ks.length) :
    ∃ r c, v = .slice (some ⟨r, 0, none⟩) ks.length c ∧ w.heap.size < r ∧ r < wr.heap.size ∧ ∀ i, i < ks.length → ∃ g, gs[i]? = some g ∧ wr.cell? ⟨r, i, none⟩ = some (ptrV g) := by
  have hl := h.len
  have h2 := h.own
  rcases h2.2 with ⟨hv, e0⟩ | ⟨r, c, cur, rfl, hB, hg, hnc, _⟩
  · omega
  · refine ⟨r, c, rfl, by omega, (Array.getElem?_eq_some_iff.1 hg).1, fun i hi => ⟨gs[i]'(by omega), List.getElem?_eq_getElem (by omega), ?_⟩⟩
    rw [World.ownsRow.cellAt h2 i (by omega), List.getElem?_map, List.getElem?_eq_getElem (by omega)]; rfl
/-- All kids are there. -/
theorem BackSt.done {w wr : World} {E : Nat} {v : Value} {gs : List Nat} : ∀ {t : Kt}, t.top ≠ 19 → BackSt w wr E t.top (t.kids.map Kt.back) v gs → (t.kids.length = 0 → v = .slice none 0 0) → TreeAt wr (fun k => k < w.heap.size) t.back w.heap.size
  | .leaf s, _, h, h0 => by
    obtain rfl := h0 rfl
    exact ⟨Nat.lt_irrefl _, h.c0, h.c1⟩
  | .star a, _, h, _ => by
    obtain ⟨r, c, rfl, hr, hr2, hc⟩ := h.cell (by simp [Kt.kids])
    obtain ⟨g, hg, d⟩ := hc 0 (by simp [Kt.kids])
    have hk := h.kid 0 a.back g rfl hg
    exact ⟨Nat.lt_irrefl _, h.c0, r, c, g, h.c1, by simp; omega, d, TreeAt.keep (fun k _ _ => rfl) (fun k _ hx => .inl (Nat.le_of_lt hx)) _ _ hk⟩
  | .two s a b, hn, h, _ => by
    have hs : s ≠ 19 := hn
    obtain ⟨r, c, rfl, hr, hr2, hc⟩ := h.cell (by simp [Kt.kids])
    obtain ⟨g, hg, d⟩ := hc 0 (by simp [Kt.kids])
    obtain ⟨g', hg', d'⟩ := hc 1 (by simp [Kt.kids])
    have hk := h.kid 0 a.back g rfl hg
    have hk' := h.kid 1 b.back g' rfl hg'
    unfold Kt.back
    rw [if_neg hs]
    exact ⟨Nat.lt_irrefl _, h.c0, r, c, g, g', h.c1, by simp; omega, d, d', TreeAt.keep (fun k _ _ => rfl) (fun k _ hx => .inl (Nat.le_of_lt hx)) _ _ hk, TreeAt.keep (fun k _ _ => rfl) (fun k _ hx => .inl (Nat.le_of_lt hx)) _ _ hk'⟩
/-- The two kids exchanged. -/
structure Swapped (wr w' : World) (r : Nat) (u0 u1 : Value) : Prop where
  c0 : w'.cell? ⟨r, 0, none⟩ = some u1
  c1 : w'.cell? ⟨r, 1, none⟩ = some u0
  gr : wr.grownBy w' (some r)
theorem BackSt.turned {w wr w' : World} {E r c g0 g1 : Nat} {a b : Kt} {gs : List Nat} (h : BackSt w wr E 19 ([a, b].map Kt.back) (.slice (some ⟨r, 0, none⟩) 2 c) gs) (e0 : gs[0]? = some g0) (e1 : gs[1]? = some g1) (hs : Swapped wr w' r (ptrV g0) (ptrV g1)) :
    TreeAt w' (fun k => k < w.heap.size) (Kt.two 19 a b).back w.heap.size ∧ Ext w w' := by
  have hB := (World.ownsRow.lt h.own r rfl).1
  have hne : some w.heap.size ≠ some r := fun e => by have := Option.some.inj e; omega
  have k0 := h.kid 0 a.back g0 rfl e0
  have k1 := h.kid 1 b.back g1 rfl e1
  have hkeep : ∀ (t : Kt) (g : Nat), TreeAt wr (fun k => k ≤ w.heap.size ∨ (Value.slice (some ⟨r, 0, none⟩) 2 c).ownBlock = some k) t g → TreeAt w' (fun k => k < w.heap.size) t g := fun t g ht =>
    TreeAt.keep (fun k hk hx => hs.gr.block k hk (fun e => hx (.inr e.symm))) (fun k _ hx => .inl (Nat.le_of_lt hx)) t g ht
  exact ⟨⟨Nat.lt_irrefl _, hs.gr.cell h.c0 hne, r, c, g1, g0, hs.gr.cell h.c1 hne, by simp; omega, hs.c0, hs.c1, hkeep _ _ k1, hkeep _ _ k0⟩, Ext.row h.ext hs.gr (fun k hk => by have := Option.some.inj hk; omega)⟩
theorem swapped_of {wr : World} {r u0 u1 : Nat} (h0 : wr.cell? ⟨r, 0, none⟩ = some (ptrV u0)) (h1 : wr.cell? ⟨r, 1, none⟩ = some (ptrV u1)) :
    Swapped wr ((wr.setCell ⟨r, 0, none⟩ (ptrV u1)).setCell ⟨r, 1, none⟩ (ptrV u0)).drew r (ptrV u0) (ptrV u1) := by
  have t : Touched wr ((wr.setCell ⟨r, 0, none⟩ (ptrV u1)).setCell ⟨r, 1, none⟩ (ptrV u0)) r (r + 1) := (Touched.setCell wr ⟨r, 0, none⟩ _).trans (Touched.setCell _ ⟨r, 1, none⟩ _)
  refine ⟨by simp [go_sem, h0], by simp [go_sem, h1], ⟨t.os, t.tape, t.output, t.size, fun k hk hne => ?_⟩⟩
  have hkr : k ≠ r := fun e => hne (by rw [e])
  show ((wr.setCell ⟨r, 0, none⟩ (ptrV u1)).setCell ⟨r, 1, none⟩ (ptrV u0)).heap[k]? = _
  rw [heap_setCell_other _ ⟨r, 1, none⟩ k _ hkr, heap_setCell_other _ ⟨r, 0, none⟩ k _ hkr]
theorem BackSt.at7 {w wr wk w7 : World} {E : Nat} {y : Int} {ks : List Kt} {v : Value} {gs : List Nat} (h : BackSt w wr E y ks v gs) (x : Ext wr wk) (g7 : wk.grownBy w7 v.ownBlock) :
    w7.cell? ⟨w.heap.size, 1, none⟩ = some v ∧ w7.frozen? ⟨w.heap.size, 1, none⟩ = false ∧ w.heap.size < w7.heap.size := by
  have hlt := h.lt
  have hne : some w.heap.size ≠ v.ownBlock := fun e => h.off e.symm
  have e := g7.block w.heap.size (Nat.lt_of_lt_of_le hlt x.size) hne
  refine ⟨g7.cell (x.cell' h.c1 hlt) hne, ?_, Nat.lt_of_lt_of_le hlt (Nat.le_trans x.size g7.size)⟩
  rw [World.frozen?_of_block (a := ⟨w.heap.size, 1, none⟩) e, x.cells.2 w.heap.size 1 hlt]; exact h.frz 1
theorem two_of_top : ∀ {t : Kt}, t.Good → t.top = 19 → ∃ a b, t = .two 19 a b
  | .leaf s, h, e => by have h : 0 ≤ s ∧ s ≤ 18 := h; have e : s = 19 := e; omega
  | .star a, h, e => by cases e
  | .two s a b, h, e => ⟨a, b, by have e : s = 19 := e; rw [e]⟩
theorem kids_good : ∀ {t k : Kt}, t.Good → k ∈ t.kids → k.Good
  | .leaf s, k, _, h => by cases h
  | .star a, k, hg, h => by simp [Kt.kids] at h; subst h; exact hg
  | .two s a b, k, hg, h => by
    simp [Kt.kids] at h
    rcases h with rfl | rfl
    · exact hg.2.1
    · exact hg.2.2
/-- What turning a tree backwards comes to. -/
def RetB (w : World) (t : Kt) (e : Ending) (w' : World) : Prop := ∃ g, e = .returned (.pointer (some ⟨g, 0, none⟩)) ∧ TreeAt w' (fun k => k < w.heap.size) t.back g ∧ Ext w w'
def katB (l : List Int) : List Int := if kvB l then (treeW l).back.words else []
end Go.Kt
namespace Go.Proofs.YtlaamecfknkmlaaGreat
set_option linter.unusedVariables false
open Go.RowKit Go.Kt
set_option maxRecDepth 100000 in
set_option maxHeartbeats 2000000 in
theorem reverse2_c (r c : Nat) (u0 u1 : Nat) (w : World) (h0 : w.cell? ⟨r, 0, none⟩ = some (ptrV u0)) (h1 : w.cell? ⟨r, 1, none⟩ = some (ptrV u1)) (hf : ∀ i, w.frozen? ⟨r, i, none⟩ = false) :
    Calls Tryz.prog 154 #[.slice (some ⟨r, 0, none⟩) 2 c] w fun e w' => e = .returned (.tuple #[]) ∧ Swapped w w' r (ptrV u0) (ptrV u1) := by
  have f0 := hf 0
  have f1 := hf 1
  have hz := lt_of_cell h0
  unfold ptrV at h0 h1
  go_enter Tryz.func154, Tryz.ntmps154
  go_wp2
  go_loopw [2, 3] (fun i j wr => Hid ((i = .int .i64 0 ∧ j = .int .i64 1 ∧ wr = w) ∨ (i = .int .i64 1 ∧ j = .int .i64 0 ∧ Swapped w wr r (ptrV u0) (ptrV u1)))) (fun i _ _ => 1 - (intOf i).toNat)
  case atStart => exact Lib.hid (.inl ⟨rfl, rfl, rfl⟩)
  case round =>
    rcases hrel.out with ⟨rfl, rfl, rfl⟩ | ⟨rfl, rfl, hs⟩
    · clear hrel
      go_wp2
      go_region
      all_goals
        go_wp2
        go_roundw
        case rel =>
          refine Lib.hid (.inr ⟨by go_num, by go_num, ?_⟩)
          exact swapped_of h0 h1
        case measure => simp [intOf]
    · have HS := Lib.hid hs
      clear hrel hs
      go_wp2
      go_end0
      exact ⟨rfl, HS.out⟩
set_option maxRecDepth 100000 in
set_option maxHeartbeats 4000000 in
theorem back_n : ∀ (n : Nat) (t : Kt), t.Good → t.words.length ≤ n → n ≤ 4096 → ∀ (g : Nat) (w : World), TreeAt w (fun _ => False) t g →
      Calls Tryz.prog 110 #[.pointer (some ⟨g, 0, none⟩)] w (RetB w t)
  | 0, t, hg, h, _, g, w, _ => by have := t.words_pos; omega
  | n + 1, t, hgood, h, hb, g, w, ht => by
    have c0 := ht.top
    obtain ⟨hd, c, c1, hk⟩ := ht.kids
    have zg := lt_of_cell c0
    have HK := Lib.hid hk
    have C0 := Lib.hid c0
    have ih : Hid (∀ (i : Nat) (k : Kt), t.kids[i]? = some k → ∀ gi w', TreeAt w' (fun _ => False) k gi → Calls Tryz.prog 110 #[.pointer (some ⟨gi, 0, none⟩)] w' (RetB w' k)) := fun i k e gi w' hw' =>
      back_n n k (kids_good hgood (List.mem_of_getElem? e)) (by have := kids_lt t k (List.mem_of_getElem? e); omega) (by omega) gi w' hw'
    have hn2 : t.kids.length ≤ 2 := by cases t <;> simp [Kt.kids]
    obtain ⟨m, hm⟩ : ∃ m, m = t.kids.length := ⟨_, rfl⟩
    have HM := Lib.hid hm
    rw [← hm] at c1 hn2
    have HT2 : Hid (t.top = 19 → ∃ a b, t = .two 19 a b) := fun e => two_of_top hgood e
    have HDn : Hid (∀ wr v gs, t.top ≠ 19 → BackSt w wr 81 t.top (t.kids.map Kt.back) v gs → (t.kids.length = 0 → v = .slice none 0 0) → TreeAt wr (fun k => k < w.heap.size) t.back w.heap.size) := fun wr v gs h1 h2 h3 => BackSt.done h1 h2 h3
    clear ht hk hm h c0 hgood
    obtain ⟨y, hy⟩ : ∃ y, y = t.top := ⟨_, rfl⟩
    rw [← hy] at C0 HT2 HDn
    clear hy
    have c0 := C0.out
    go_enter Tryz.func110, Tryz.ntmps110
    go_wp2
    go_loopw [17] (fun i wr => Hid (∃ (k : Nat) (v : Value) (gs : List Nat), k ≤ m ∧ i = .int .i64 k ∧ (k = 0 → v = .slice none 0 0) ∧ BackSt w wr 81 y ((t.kids.take k).map Kt.back) v gs)) (fun i _ => m - (intOf i).toNat)
    case atStart =>
      exact Lib.hid ⟨0, .slice none 0 0, [], Nat.zero_le _, rfl, fun _ => rfl, ⟨by simp [go_sem], by simp [go_sem], fun i => by simp [go_sem], ⟨rfl, .inl ⟨rfl, rfl⟩⟩, fun i t g hi => by simp at hi, by (repeat (first | exact Ext.refl _ | assumption | refine Ext.alloc ?_ _ | refine Ext.drewN ?_ _ | refine Ext.drew ?_))⟩⟩
    case round =>
      obtain ⟨k, v, gs, hkm, rfl, h0, hst⟩ := hrel.out
      have HS := Lib.hid hst
      have hlt := hst.lt
      have hx := Lib.hid hst.ext
      have d0 := hst.c0
      have d1 := hst.c1
      have f1 := hst.frz 1
      clear hrel hst
      by_cases hlt' : k < m
      · have hkk : k < t.kids.length := by rw [← HM.out]; exact hlt'
        obtain ⟨u, hu⟩ : ∃ u, t.kids[k]? = some u := ⟨_, List.getElem?_eq_getElem hkk⟩
        obtain ⟨b, gi, rfl, c2, hti⟩ := HK.out k u hu
        have zb := lt_of_cell c2
        have c2' := hx.out.cell' c2 zb
        have c1' := hx.out.cell' c1 zg
        have CI : Hid (∀ w', Ext wr w' → Calls Tryz.prog 110 #[.pointer (some ⟨gi, 0, none⟩)] w' (RetB w' u)) := fun w' e => ih.out k u hu gi w' (hti.ext (hx.out.trans e))
        have HN : Hid ((t.kids.take (k + 1)).map Kt.back = (t.kids.take k).map Kt.back ++ [u.back]) := by
          unfold Hid; rw [List.take_add_one, hu, List.map_append]; rfl
        have HL : Hid (((t.kids.take k).map Kt.back).length = k) := by unfold Hid; simp; omega
        clear hti hu c2 hkk ih HDn HT2 h0
        generalize (t.kids.take k).map Kt.back = ks at *
        have HO : Hid (wr.ownsRow (w.heap.size + 1) 81 1 v k (gs.map ptrV)) := by have := HS.out.own; rw [HL.out] at this; exact this
        obtain ⟨inf, hinf, hz0, hz1, hz2⟩ := info_parts infoTp
        have HI := Lib.hid hinf
        have HZ0 := Lib.hid hz0
        have HZ1 := Lib.hid hz1
        have HZ2 := Lib.hid hz2
        clear hinf hz0 hz1 hz2
        go_wp2
        go_region_law
          ((first
            | (go_simp; go_at_call 110; refine (CI.out _ (by (repeat (first | exact Ext.refl _ | assumption | refine Ext.alloc ?_ _ | refine Ext.drewN ?_ _ | refine Ext.drew ?_ | refine Ext.setCell ?_ (by simp; try omega) _)))).mono ?_; rintro e wk ⟨gk, rfl, tk, yk⟩
               have yk2 := Lib.hid (Ext.trans (show Ext wr _ by (repeat (first | exact Ext.refl _ | assumption | refine Ext.alloc ?_ _ | refine Ext.drewN ?_ _ | refine Ext.drew ?_ | refine Ext.setCell ?_ (by simp; try omega) _))) yk)
               have TK : Hid (TreeAt wk (fun k => k < wr.heap.size) u.back gk) := TreeAt.keep (fun k _ _ => rfl) (fun k _ hx => by have hx : k < wr.heap.size := hx; (try simp); omega) _ _ tk
               have e0 := yk2.out.cell' d0 hlt
               have e1 := yk2.out.cell' d1 hlt
               have ef := (yk2.out.cells.2 w.heap.size 1 hlt).trans f1
               have hzk := yk2.out.size
               have hlk : w.heap.size < wk.heap.size := by omega
               clear tk yk)
            | (refine step_append_lies _ rfl _ _ _ rfl (w.heap.size + 1) 81 inf _ 1 8 Tryz.underlying118 HI.out HZ0.out HZ1.out HZ2.out rfl (by decide) v k (gs.map ptrV) rfl (own_ext HO.out (yk2.out.trans (by (repeat (first | exact Ext.refl _ | assumption | refine Ext.alloc ?_ _ | refine Ext.drewN ?_ _ | refine Ext.drew ?_ | refine Ext.setCell ?_ (by simp; try omega) _))))) _ 1 1 [ptrV gk] rfl rfl (fun j u hj => by
                  match j, hj with
                  | 0, hj => simp at hj; subst hj; simp [Addr.add, go_sem, ptrV]
                  | j + 1, hj => simp at hj) (fun u hu => by simp at hu; subst hu; rfl) (by decide) (by unfold maxLen; omega) (by omega) (by simp; omega) _ rfl ?_
               intro g7 c7 w7 o7 gr7 wh7 z7
               have wh : (Value.slice (some ⟨g7, 0, none⟩) (k + 1) c7).ownBlock = v.ownBlock ∨ (Value.slice (some ⟨g7, 0, none⟩) (k + 1) c7).ownBlock = some (wk.heap.size + 1) := by
                 rcases wh7 with e | e
                 · exact .inl e.symm
                 · right; rw [e]; simp [Value.ownBlock]
               obtain ⟨k71, k7f, k7z⟩ := HS.out.at7 (yk2.out.trans (by (repeat (first | exact Ext.refl _ | assumption | refine Ext.alloc ?_ _ | refine Ext.drewN ?_ _ | refine Ext.drew ?_ | refine Ext.setCell ?_ (by simp; try omega) _)))) gr7
               have GR := Lib.hid gr7
               have O7 := Lib.hid o7
               have WH := Lib.hid wh
               clear gr7 o7 wh wh7)
            | fail))
        all_goals
          have HP := Lib.hid (HS.out.push (yk2.out.trans (by (repeat (first | exact Ext.refl _ | assumption | refine Ext.alloc ?_ _ | refine Ext.drewN ?_ _ | refine Ext.drew ?_ | refine Ext.setCell ?_ (by simp; try omega) _)))) (TK.out.ext (by (repeat (first | exact Ext.refl _ | assumption | refine Ext.alloc ?_ _ | refine Ext.drewN ?_ _ | refine Ext.drew ?_ | refine Ext.setCell ?_ (by simp; try omega) _)))) (by rw [HL.out]; exact O7.out) GR.out (by have := WH.out; simpa using this))
          rw [← HN.out] at HP
          clear O7 GR WH TK e0 e1 ef d0 d1 f1
          go_wp2
          go_roundw
          case rel => exact Lib.hid ⟨k + 1, _, _, by omega, by go_num, fun h => absurd h (by omega), HP.out⟩
          case measure => simp [intOf]; omega
      · obtain rfl : k = m := by omega
        have e : t.kids.take k = t.kids := by rw [HM.out, List.take_length]
        rw [e] at HS
        have c0' := hx.out.cell' c0 zg
        have c1' := hx.out.cell' c1 zg
        by_cases hy : y = 19
        · obtain ⟨a, b, rfl⟩ := HT2.out hy
          subst hy
          have hk2 : k = 2 := HM.out
          obtain ⟨r, cc, rfl, hr1, hr2, hcs⟩ := HS.out.cell (by simp [Kt.kids])
          obtain ⟨g0, hg0, e0⟩ := hcs 0 (by simp [Kt.kids])
          obtain ⟨g1, hg1, e1⟩ := hcs 1 (by simp [Kt.kids])
          have ef : ∀ i, wr.frozen? ⟨r, i, none⟩ = false := fun i => World.ownsRow.frozenAt HS.out.own i
          have CR : Hid (∀ w', Ext wr w' → Calls Tryz.prog 154 #[.slice (some ⟨r, 0, none⟩) 2 cc] w' fun e w'' => e = .returned (.tuple #[]) ∧ Swapped w' w'' r (ptrV g0) (ptrV g1)) := fun w' x => reverse2_c r cc g0 g1 w' (x.cell' e0 hr2) (x.cell' e1 hr2) (fun i => by rw [x.cells.2 r i hr2]; exact ef i)
          have HS2 : Hid (BackSt w wr 81 19 ([a, b].map Kt.back) (.slice (some ⟨r, 0, none⟩) 2 cc) gs) := HS.out
          have HG0 := Lib.hid hg0
          have HG1 := Lib.hid hg1
          have hl2 : ((Kt.two 19 a b).kids.map Kt.back).length = 2 := rfl
          rw [hl2] at d1
          clear hcs e ih HK HDn HT2 HS h0 ef hg0 hg1 hl2 C0 e0 e1
          go_wp2_with (go_at_call 154; refine (CR.out _ (by (repeat (first | exact Ext.refl _ | assumption | refine Ext.alloc ?_ _ | refine Ext.drewN ?_ _ | refine Ext.drew ?_)))).mono ?_; rintro e w9 ⟨rfl, hs⟩)
          have HW : Hid (TreeAt w9 (fun k => k < w.heap.size) (Kt.two 19 a b).back w.heap.size ∧ Ext w w9) := BackSt.turned (wr := wr) HS2.out HG0.out HG1.out hs
          clear hs
          go_wp2
          go_ret
          exact ⟨_, rfl, HW.out.1, HW.out.2⟩
        · have hyb : (y == 19) = false := by simpa using hy
          have HW := Lib.hid (HDn.out wr v gs hy HS.out (fun h => h0 (by rw [HM.out]; exact h)))
          clear e ih HK HDn HT2 HS h0
          go_wp2
          go_ret
          exact ⟨_, rfl, HW.out.ext (by (repeat (first | exact Ext.refl _ | assumption | refine Ext.alloc ?_ _ | refine Ext.drewN ?_ _ | refine Ext.drew ?_))), hx.out.trans (by (repeat (first | exact Ext.refl _ | assumption | refine Ext.alloc ?_ _ | refine Ext.drewN ?_ _ | refine Ext.drew ?_)))⟩
set_option maxRecDepth 100000 in
set_option maxHeartbeats 1000000 in
theorem iKatBack_c (a : Option Addr) (cap : Nat) (l : List Int) (w : World) (hl : IntsAt w a l) (hlen : l.length ≤ 4194304) :
    Calls Tryz.prog 49 #[.slice a l.length cap] w (RetI 3 w (katB l)) := by
  have HL := Lib.hid hl
  cases hv : kvB l
  · have HF : Hid (katB l = []) := by unfold Hid katB; rw [hv]; rfl
    clear hl
    go_enter Tryz.func49, Tryz.ntmps49
    go_wp2_with fail
    refine (iKatValid_c a cap l _ HL.out hlen).mono ?_
    rw [hv]
    rintro e w1 ⟨rfl, rfl⟩
    go_wp2
    go_ret
    exact ⟨_, rfl, by rw [HF.out]; exact OwnI.nil _ _ _, by (repeat (first | exact Ext.refl _ | assumption | refine Ext.alloc ?_ _ | refine Ext.drewN ?_ _ | refine Ext.drew ?_))⟩
  · have h40 := kvB_len hv
    have hvv := KvL.of hv
    have HV := Lib.hid hv
    obtain ⟨t, hg, ht⟩ := kvB_tree hv
    have HF : Hid (katB l = t.back.words) := by unfold Hid katB; rw [hv, ← ht, treeW_words hg]; rfl
    have CB : Hid (∀ w', Ext w w' → Calls Tryz.prog 69 #[.slice a l.length cap] w' (RetT w' t)) := fun w' x => buildL_c a cap l t w' (HL.out.ext x) hg ht hvv
    have hlb : t.back.words.length ≤ 4096 := by rw [t.back_len, ht]; omega
    have CK : Hid (∀ w' g, TreeAt w' (fun _ => False) t g → Calls Tryz.prog 110 #[.pointer (some ⟨g, 0, none⟩)] w' (RetB w' t)) := fun w' g x => back_n t.words.length t hg (Nat.le_refl _) (by rw [ht]; omega) g w' x
    have CS : Hid (∀ w' g, TreeAt w' (fun _ => False) t.back g → Calls Tryz.prog 111 #[.pointer (some ⟨g, 0, none⟩)] w' (RetI 3 w' t.back.words)) := fun w' g x => steps_c t.back hlb g w' x
    clear hl hv hvv hg ht
    generalize t.back.words = L at *
    go_enter Tryz.func49, Tryz.ntmps49
    go_wp2_with fail
    refine (iKatValid_c a cap l _ HL.out hlen).mono ?_
    rw [HV.out]
    rintro e w1 ⟨rfl, rfl⟩
    go_wp2_with fail
    refine (CB.out _ (by (repeat (first | exact Ext.refl _ | assumption | refine Ext.alloc ?_ _ | refine Ext.drewN ?_ _ | refine Ext.drew ?_)))).mono ?_
    rintro e w2 ⟨g2, rfl, t2, x2⟩
    have X2 := Lib.hid (Ext.trans (show Ext w _ by (repeat (first | exact Ext.refl _ | assumption | refine Ext.alloc ?_ _ | refine Ext.drewN ?_ _ | refine Ext.drew ?_))) x2)
    have T2 := Lib.hid t2
    clear x2 t2
    go_wp2_with fail
    refine (CK.out _ _ (T2.out.ext (by (repeat (first | exact Ext.refl _ | assumption | refine Ext.alloc ?_ _ | refine Ext.drewN ?_ _ | refine Ext.drew ?_))))).mono ?_
    rintro e w3 ⟨g3, rfl, t3, x3⟩
    have X3 := Lib.hid (X2.out.trans (Ext.trans (by (repeat (first | exact Ext.refl _ | assumption | refine Ext.alloc ?_ _ | refine Ext.drewN ?_ _ | refine Ext.drew ?_))) x3))
    have T3 := Lib.hid t3.free
    clear x3 t3
    go_wp2_with fail
    refine (CS.out _ _ (T3.out.ext (by (repeat (first | exact Ext.refl _ | assumption | refine Ext.alloc ?_ _ | refine Ext.drewN ?_ _ | refine Ext.drew ?_))))).mono ?_
    rintro e w4 ⟨v4, rfl, o4, x4⟩
    have X4 := Lib.hid (X3.out.trans (Ext.trans (by (repeat (first | exact Ext.refl _ | assumption | refine Ext.alloc ?_ _ | refine Ext.drewN ?_ _ | refine Ext.drew ?_))) x4))
    have hz := X3.out.size
    have O4 := Lib.hid (OwnI.mono o4 (B' := w.heap.size) (by (try simp); try omega))
    clear x4 o4
    go_wp2
    go_ret
    exact ⟨v4, rfl, by rw [HF.out]; exact O4.out.ext (by (repeat (first | exact Ext.refl _ | assumption | refine Ext.alloc ?_ _ | refine Ext.drewN ?_ _ | refine Ext.drew ?_))), X4.out.trans (by (repeat (first | exact Ext.refl _ | assumption | refine Ext.alloc ?_ _ | refine Ext.drewN ?_ _ | refine Ext.drew ?_)))⟩
end Go.Proofs.YtlaamecfknkmlaaGreat
