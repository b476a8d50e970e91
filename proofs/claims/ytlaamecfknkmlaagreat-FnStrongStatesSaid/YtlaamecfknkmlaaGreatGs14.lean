/- Merged texts: contracts and plain lemmas (V, X, Md). -/
import Derived.Test.YtlaamecfknkmlaaGreatGs3
import Derived.Test.YtlaamecfknkmlaaGreatGs1
import Derived.Deep.RegionLaw
import Derived.Deep.DeepCutAuto
import Derived.Test.YtlaamecfknkmlaaGreatGsKd
namespace Go.Proofs.YtlaamecfknkmlaaGreat
set_option linter.unusedVariables false
open Go.RowKit Go.Kt

/-- While a model is drawn: its variable (block b6), the result's variable (the first block of the call's own), its rows, the reader. -/
structure ModelSt (w wr : World) (g b6 B0 T m : Nat) (s p q : Int) (v : Value) (ll : List (List Int)) : Prop where
  hg : g < w.heap.size
  hw : w.heap.size < b6
  hb : b6 < B0
  own : OwnR wr B0 T 3 23 v ll
  box : BoxM wr b6 s p q v
  thaw : Thawed wr b6
  res : BoxM wr w.heap.size 0 0 0 (.slice none 0 0)
  rth : Thawed wr w.heap.size
  rd : Rd wr g m
  tch : Touched w wr g (g + 1)
theorem ModelSt.ext {w wr w' : World} {g b6 B0 T m : Nat} {s p q : Int} {v : Value} {ll : List (List Int)} (h : ModelSt w wr g b6 B0 T m s p q v ll) (e : Ext wr w') : ModelSt w w' g b6 B0 T m s p q v ll :=
  ⟨h.hg, h.hw, h.hb, h.own.ext e, h.box.ext e, h.thaw.ext e, h.res.ext e, h.rth.ext e, h.rd.ext e, h.tch.trans (Touched.of_ext e)⟩
theorem ModelSt.mono {w wr : World} {g b6 B0 T m m' : Nat} {s p q : Int} {v : Value} {ll : List (List Int)} (h : ModelSt w wr g b6 B0 T m s p q v ll) (hm : m ≤ m') : ModelSt w wr g b6 B0 T m' s p q v ll :=
  ⟨h.hg, h.hw, h.hb, h.own, h.box, h.thaw, h.res, h.rth, h.rd.mono hm, h.tch⟩
theorem ModelSt.drawn {w wr w' : World} {g b6 B0 T m m' : Nat} {s p q : Int} {v : Value} {ll : List (List Int)} (h : ModelSt w wr g b6 B0 T m s p q v ll) (t : Touched wr w' g (g + 1)) (r : Rd w' g m') : ModelSt w w' g b6 B0 T m' s p q v ll := by
  have h1 := h.hg; have h2 := h.hw; have h3 := h.hb
  exact ⟨h1, h2, h3, h.own.untouched t (.inr (by omega)), h.box.untouched t (.inr (by omega)), h.thaw.untouched t (.inr (by omega)), h.res.untouched t (.inr (by omega)), h.rth.untouched t (.inr (by omega)), r, h.tch.trans t⟩
/-- The rows have turned. -/
theorem ModelSt.turned {w wX w' : World} {g b6 B0 T T' m : Nat} {s p q : Int} {v v' : Value} {ll ll' : List (List Int)} (h : ModelSt w wX g b6 B0 T m s p q v ll) {T1 : Nat} (t : Touched wX w' B0 T1) (ho : OwnR w' B0 T' 3 23 v' ll') :
    BoxM w' b6 s p q v ∧ Thawed w' b6 ∧ (v = v' → ModelSt w w' g b6 B0 T' m s p q v' ll') ∧ ModelSt w (w'.setCell ⟨b6, 3, none⟩ v') g b6 B0 T' m s p q v' ll' := by
  have h1 := h.hg; have h2 := h.hw; have h3 := h.hb
  have hb := h.box.untouched t (.inl h3)
  have ht := h.thaw.untouched t (.inl h3)
  have hr := h.res.untouched t (.inl (by omega))
  have hrt := h.rth.untouched t (.inl (by omega))
  have hrd := h.rd.untouched t (by omega)
  have htt := h.tch.high t (by omega)
  refine ⟨hb, ht, fun e => ⟨h1, h2, h3, ho, by rw [← e]; exact hb, ht, hr, hrt, hrd, htt⟩, ⟨h1, h2, h3, ?_, hb.setRow, ht.setCell _ _, hr.setOther (by omega), hrt.setCell _ _, ?_, htt.high (Touched.setCell w' ⟨b6, 3, none⟩ v') (by show w.heap.size ≤ b6; omega)⟩⟩
  · exact ho.setOld h3 _
  · exact hrd.untouched (Touched.setCell w' ⟨b6, 3, none⟩ v') (by show g < b6; omega)
theorem Touched.setIn {w w' : World} {B T : Nat} (t : Touched w w' B T) {p : Addr} (h1 : B ≤ p.block) (h2 : p.block < T) (u : Value) : Touched w (w'.setCell p u) B T :=
  ⟨t.os, t.tape, t.output, by simpa using t.size, fun k hk ho => (Below.heap_setCell w' p u k (by omega)).trans (t.block k hk ho)⟩
theorem Touched.then {w w' w'' : World} {B T : Nat} (t : Touched w w' B T) (e : Ext w' w'') : Touched w w'' B T := t.trans (Touched.of_ext e)
theorem OwnR.cap {w : World} {B T E ER n cap : Nat} {a : Option Addr} {ll : List (List Int)} (h : OwnR w B T E ER (.slice a n cap) ll) : n ≤ cap := by
  obtain ⟨vs, h1, _⟩ := OwnRk.outer h
  rcases h1.2 with ⟨hv, _⟩ | ⟨g, cap', cur, hv, _, _, hn, _⟩
  · have : a = none ∧ n = 0 ∧ cap = 0 := by simpa using hv
    omega
  · have : a = some ⟨g, 0, none⟩ ∧ n = ll.length ∧ cap = cap' := by simpa using hv
    omega
theorem box_put {w : World} {b : Nat} (h : BoxM w b 0 0 0 (.slice none 0 0)) (s p q : Int) :
    BoxM ((((w.setCell ⟨b, 0, none⟩ (.int .i64 s)).setCell ⟨b, 1, none⟩ (.int .i64 p)).setCell ⟨b, 2, none⟩ (.int .i64 q)).setCell ⟨b, 3, none⟩ (.slice none 0 0)) b s p q (.slice none 0 0) := by
  obtain ⟨h0, h1, h2, h3⟩ := h
  simp [BoxM, go_sem, h0, h1, h2, h3]
theorem cell_drawn {wr wc wk : World} {g b o : Nat} {v : Value} (t : Touched wc wk g (g + 1)) (e : Ext wr wc) (hg : g < b) (hb : b < wr.heap.size) (h : wr.cell? ⟨b, o, none⟩ = some v) : wk.cell? ⟨b, o, none⟩ = some v :=
  (World.cell?_of_block (a := ⟨b, o, none⟩) (t.block b (Nat.lt_of_lt_of_le hb e.size) (.inr (by omega)))).trans (e.cell' h hb)
theorem frozen_drawn {wr wc wk : World} {g b o : Nat} {v : Bool} (t : Touched wc wk g (g + 1)) (e : Ext wr wc) (hg : g < b) (hb : b < wr.heap.size) (h : wr.frozen? ⟨b, o, none⟩ = v) : wk.frozen? ⟨b, o, none⟩ = v :=
  (World.frozen?_of_block (a := ⟨b, o, none⟩) (t.block b (Nat.lt_of_lt_of_le hb e.size) (.inr (by omega)))).trans ((e.cells.2 b o hb).trans h)
theorem box_fresh {wX w2 : World} {g : Nat} {t : TypeId} (t2 : Touched (wX.alloc (.cells #[.int .i64 0, .int .i64 0, .int .i64 0, .slice none 0 0] t)) w2 g (g + 1)) (hg : g < wX.heap.size) :
    BoxM w2 wX.heap.size 0 0 0 (.slice none 0 0) ∧ Thawed w2 wX.heap.size :=
  ⟨BoxM.untouched (by simp [BoxM, go_sem]) t2 (.inr (by omega)), Thawed.untouched ⟨by simp, fun o => by simp [go_sem]⟩ t2 (.inr (by omega))⟩
theorem box_fresh' {wX w2 : World} {g : Nat} {t : TypeId} (t2 : Touched (wX.alloc (.cells #[.int .i64 0, .int .i64 0, .int .i64 0, .slice none 0 0] t)).drew w2 g (g + 1)) (hg : g < wX.heap.size) :
    BoxM w2 wX.heap.size 0 0 0 (.slice none 0 0) ∧ Thawed w2 wX.heap.size :=
  ⟨BoxM.untouched (by simp [BoxM, go_sem]) t2 (.inr (by omega)), Thawed.untouched ⟨by simp, fun o => by simp [go_sem]⟩ t2 (.inr (by omega))⟩
/-- What drawing a model comes to. -/
def DrewM (w : World) (g m : Nat) (e : Ending) (w' : World) : Prop :=
  ∃ (st : Nat) (p q : Int) (a : Option Addr) (cap : Nat) (ll : List (List Int)), e = .returned (modelV st p q a ll.length cap) ∧ st ≤ 5 ∧ RowsFrom w' w.heap.size a ll ∧ ll.length ≤ cap ∧ ll.length ≤ 3 ∧ (∀ i, i < ll.length → (rowI ll i).length ≤ 8) ∧ Rd w' g (m + 1000) ∧ Touched w w' g (g + 1)

theorem drewM_of {w wX w' : World} {g m m' s cap : Nat} {p q : Int} {a : Option Addr} {ll : List (List Int)} (hg : g < w.heap.size) (hr : RowsFrom wX (w.heap.size + 1) a ll) (hrd : Rd wX g m') (hm : m' ≤ m + 1000) (htc : Touched w wX g (g + 1))
    (hs : s ≤ 5) (hcap : ll.length ≤ cap) (h3 : ll.length ≤ 3) (hrows : ∀ i, i < ll.length → (rowI ll i).length ≤ 8) (t : Touched wX w' w.heap.size (w.heap.size + 1)) : DrewM w g m (.returned (modelV s p q a ll.length cap)) w' :=
  ⟨s, p, q, a, cap, ll, rfl, hs, (hr.untouched t (Nat.le_refl _)).mono (Nat.le_succ _), hcap, h3, hrows, (hrd.untouched t hg).mono hm, htc.high t (Nat.le_refl _)⟩
theorem ModelSt.setP {w wX : World} {g b6 B0 T m : Nat} {s p q : Int} {v : Value} {ll : List (List Int)} (h : ModelSt w wX g b6 B0 T m s p q v ll) (p' : Int) : ModelSt w (wX.setCell ⟨b6, 1, none⟩ (.int .i64 p')) g b6 B0 T m s p' q v ll := by
  have h1 := h.hg; have h2 := h.hw; have h3 := h.hb
  refine ⟨h1, h2, h3, h.own.setOld h3 _, ?_, h.thaw.setCell _ _, h.res.setOther (by omega), h.rth.setCell _ _, h.rd.untouched (Touched.setCell wX ⟨b6, 1, none⟩ _) (by show g < b6; omega), h.tch.high (Touched.setCell wX ⟨b6, 1, none⟩ _) (by show w.heap.size ≤ b6; omega)⟩
  obtain ⟨k0, k1, k2, k3⟩ := h.box
  simp [BoxM, go_sem, k0, k1, k2, k3]
theorem rows_more {s : Nat} {ll : List (List Int)} {L : List Int} (h : ∀ j, j < ll.length → s ≤ (rowI ll j).length ∧ (rowI ll j).length ≤ s + 1) (hL : s ≤ L.length ∧ L.length ≤ s + 1) :
    ∀ j, j < (ll ++ [L]).length → s ≤ (rowI (ll ++ [L]) j).length ∧ (rowI (ll ++ [L]) j).length ≤ s + 1 := fun j hj => by
  by_cases hlt : j < ll.length
  · rw [rowI_append_old ll L j hlt]; exact h j hlt
  · obtain rfl : j = ll.length := by simp at hj; omega
    rw [rowI_append_new]; exact hL
theorem rows_put {s k t : Nat} {u : Int} {ll : List (List Int)} (h : ∀ j, j < ll.length → s ≤ (rowI ll j).length ∧ (rowI ll j).length ≤ s + 1) :
    ∀ j, j < (ll.set k ((rowI ll k).set t u)).length → s ≤ (rowI (ll.set k ((rowI ll k).set t u)) j).length ∧ (rowI (ll.set k ((rowI ll k).set t u)) j).length ≤ s + 1 := fun j hj => by
  rw [List.length_set] at hj
  rw [rowI_set ll k _ j hj]
  split
  · rename_i e; subst e; rw [List.length_set]; exact h _ hj
  · exact h j hj
theorem rows_xchg {s : Nat} {L : List Int} {ll : List (List Int)} (h : ∀ j, j < ll.length → s ≤ (rowI ll j).length ∧ (rowI ll j).length ≤ s + 1) (hs : s ≤ 5) (hL : L.length ≤ 8) : ∀ j, j < (ll.set 1 L).length → (rowI (ll.set 1 L) j).length ≤ 8 := fun j hj => by
  rw [List.length_set] at hj
  rw [rowI_set ll 1 _ j hj]
  have := h j hj
  split <;> omega

set_option maxRecDepth 100000 in
set_option maxHeartbeats 2000000 in
theorem l20Model_c (g m : Nat) (n : Int) (w : World) (h : Rd w g m) (hm : m ≤ 10000) :
    Calls Tryz.prog 97 #[.pointer (some ⟨g, 0, none⟩), .int .i64 n] w (DrewM w g m) := by
  have hg := h.lt
  have HH := Lib.hid h
  clear h
  go_enter Tryz.func97, Tryz.ntmps97
  go_wp2_with fail
  refine (pick_c g m 5 _ (HH.out.ext (by (repeat (first | exact Ext.refl _ | assumption | refine Ext.alloc ?_ _ | refine Ext.drewN ?_ _ | refine Ext.drew ?_)))) (by omega)).mono ?_
  rintro e w1 ⟨x, rfl, hx, hr1, ht1⟩
  obtain ⟨s, hs1, hs5, hwr⟩ : ∃ s : Nat, 1 ≤ s ∧ s ≤ 5 ∧ IntKind.i64.wrap (1 + (x : Int)) = (s : Int) := ⟨x + 1, by omega, by omega, by rw [IntWalk.i64_in _ (by omega)]; omega⟩
  have hpc := pow2_cast s
  have hps : pow2 s ≤ 64 := pow2_le s 6 (by omega)
  have hwp : IntKind.i64.wrap ((pow2 s : Nat) : Int) = ((pow2 s : Nat) : Int) := IntWalk.i64_in _ (by omega)
  have hb4 : BoxM w1 w.heap.size 0 0 0 (.slice none 0 0) := BoxM.untouched (by simp [BoxM, go_sem]) ht1 (.inr (by omega))
  have ht4 : Thawed w1 w.heap.size := Thawed.untouched ⟨by simp, fun o => by simp [go_sem]⟩ ht1 (.inr (by omega))
  have hz1 : w.heap.size < w1.heap.size := ht4.1
  replace ht1 : Touched w w1 g (g + 1) := Touched.trans (Touched.of_ext (by (repeat (first | exact Ext.refl _ | assumption | refine Ext.alloc ?_ _ | refine Ext.drewN ?_ _ | refine Ext.drew ?_)))) ht1
  have HB4 := Lib.hid hb4
  have HT4 := Lib.hid ht4
  have HT1 := Lib.hid ht1
  have HR1 := Lib.hid hr1
  clear hb4 ht4 ht1 hr1
  go_upto_region 2 with fail
  go_cut [6] (fun pv wx => Hid (∃ (b6 p q : Nat), pv = .pointer (some ⟨b6, 0, none⟩) ∧ w.heap.size < b6 ∧ BoxM wx b6 s p q (.slice none 0 0) ∧ Thawed wx b6 ∧ BoxM wx w.heap.size 0 0 0 (.slice none 0 0) ∧ Thawed wx w.heap.size ∧ Rd wx g (m + 3) ∧ Touched w wx g (g + 1)))
  case first =>
    go_region_law ((first
      | (go_simp; go_at_call 54; refine (pick_c g _ _ _ (hr2.ext (by (repeat (first | exact Ext.refl _ | assumption | refine Ext.alloc ?_ _ | refine Ext.drewN ?_ _ | refine Ext.drew ?_)))) (by omega)).mono ?_; rintro e w3 ⟨q, rfl, hq, hr3, ht3⟩
         have hres3 := BoxM.untouched (BoxM.ext hres2 (by (repeat (first | exact Ext.refl _ | assumption | refine Ext.alloc ?_ _ | refine Ext.drewN ?_ _ | refine Ext.drew ?_)))) ht3 (.inr (by omega))
         have hrt3 := Thawed.untouched (Thawed.ext hrt2 (by (repeat (first | exact Ext.refl _ | assumption | refine Ext.alloc ?_ _ | refine Ext.drewN ?_ _ | refine Ext.drew ?_)))) ht3 (.inr (by omega))
         have htc3 := Touched.trans (Touched.then htc2 (by (repeat (first | exact Ext.refl _ | assumption | refine Ext.alloc ?_ _ | refine Ext.drewN ?_ _ | refine Ext.drew ?_)))) ht3
         have hz3 : w2.heap.size ≤ w3.heap.size := by have := ht3.size; (try simp at this); omega
         first
           | (have hk3 := And.intro (BoxM.untouched (BoxM.ext hk2.1 (by (repeat (first | exact Ext.refl _ | assumption | refine Ext.alloc ?_ _ | refine Ext.drewN ?_ _ | refine Ext.drew ?_)))) ht3 (.inr (by omega))) (Thawed.untouched (Thawed.ext hk2.2 (by (repeat (first | exact Ext.refl _ | assumption | refine Ext.alloc ?_ _ | refine Ext.drewN ?_ _ | refine Ext.drew ?_)))) ht3 (.inr (by omega)))
              have c3 := hk3.1.out
              have f3 := hk3.2.2
              have z3 := hk3.2.1)
           | (have hk3 := box_fresh ht3 (by omega)
              have c3 := hk3.1.out
              have f3 := hk3.2.2
              have z3 := hk3.2.1)
           | (have hk3 := box_fresh' ht3 (by omega)
              have c3 := hk3.1.out
              have f3 := hk3.2.2
              have z3 := hk3.2.1)
           | skip)
      | (go_simp; go_at_call 54; refine (pick_c g _ _ _ (HR1.out.ext (by (repeat (first | exact Ext.refl _ | assumption | refine Ext.alloc ?_ _ | refine Ext.drewN ?_ _ | refine Ext.drew ?_)))) (by omega)).mono ?_; rintro e w2 ⟨p, rfl, hp, hr2, ht2⟩
         have hres2 := BoxM.untouched (BoxM.ext HB4.out (by (repeat (first | exact Ext.refl _ | assumption | refine Ext.alloc ?_ _ | refine Ext.drewN ?_ _ | refine Ext.drew ?_)))) ht2 (.inr (by omega))
         have hrt2 := Thawed.untouched (Thawed.ext HT4.out (by (repeat (first | exact Ext.refl _ | assumption | refine Ext.alloc ?_ _ | refine Ext.drewN ?_ _ | refine Ext.drew ?_)))) ht2 (.inr (by omega))
         have htc2 := Touched.trans (Touched.then HT1.out (by (repeat (first | exact Ext.refl _ | assumption | refine Ext.alloc ?_ _ | refine Ext.drewN ?_ _ | refine Ext.drew ?_)))) ht2
         have hz2 : w1.heap.size ≤ w2.heap.size := by have := ht2.size; (try simp at this); omega
         first
           | (have hk2 := box_fresh ht2 (by omega))
           | (have hk2 := box_fresh' ht2 (by omega))
           | skip)
      | fail))
    all_goals
      go_wp2_with fail
      go_meet
      case rel =>
        refine Lib.hid ⟨_, p, q, rfl, by omega, ?_, ?_, ?_, ?_, ?_, ?_⟩
        · first
            | exact box_put hk3.1 _ _ _
            | simp [BoxM, go_sem]
        · first
            | exact (((hk3.2.setCell _ _).setCell _ _).setCell _ _).setCell _ _
            | exact ⟨by simp, fun o => by simp [go_sem]⟩
        · refine BoxM.untouched hres3 (B := w.heap.size + 1) (T := w3.heap.size + 1) ?_ (.inl (by omega))
          (repeat (first | exact Touched.refl _ _ _ | refine Touched.setIn ?_ (by dsimp only; omega) (by dsimp only; omega) _ | exact Touched.of_ext (by (repeat (first | exact Ext.refl _ | assumption | refine Ext.alloc ?_ _ | refine Ext.drewN ?_ _ | refine Ext.drew ?_)))))
        · refine Thawed.untouched hrt3 (B := w.heap.size + 1) (T := w3.heap.size + 1) ?_ (.inl (by omega))
          (repeat (first | exact Touched.refl _ _ _ | refine Touched.setIn ?_ (by dsimp only; omega) (by dsimp only; omega) _ | exact Touched.of_ext (by (repeat (first | exact Ext.refl _ | assumption | refine Ext.alloc ?_ _ | refine Ext.drewN ?_ _ | refine Ext.drew ?_)))))
        · refine Rd.mono (Rd.untouched hr3 (B := w.heap.size + 1) (T := w3.heap.size + 1) ?_ (by omega)) (by omega)
          (repeat (first | exact Touched.refl _ _ _ | refine Touched.setIn ?_ (by dsimp only; omega) (by dsimp only; omega) _ | exact Touched.of_ext (by (repeat (first | exact Ext.refl _ | assumption | refine Ext.alloc ?_ _ | refine Ext.drewN ?_ _ | refine Ext.drew ?_)))))
        · refine htc3.high (B := w.heap.size + 1) (T := w3.heap.size + 1) ?_ (by omega)
          (repeat (first | exact Touched.refl _ _ _ | refine Touched.setIn ?_ (by dsimp only; omega) (by dsimp only; omega) _ | exact Touched.of_ext (by (repeat (first | exact Ext.refl _ | assumption | refine Ext.alloc ?_ _ | refine Ext.drewN ?_ _ | refine Ext.drew ?_)))))
  case rest =>
    obtain ⟨b6, p, q, rfl, hwb, hb6, ht6, hb4, ht4, hrd, htc⟩ := hcut.out
    clear hcut HB4 HT4 HT1 HR1
    go_wp2
    go_loopw [7] (fun i wr => Hid (∃ (B0 T : Nat) (v : Value) (ll : List (List Int)), ll.length ≤ 3 ∧ i = .int .i64 ll.length ∧ (∀ j, j < ll.length → s ≤ (rowI ll j).length ∧ (rowI ll j).length ≤ s + 1) ∧ ModelSt w wr g b6 B0 T (m + 3 + 100 * ll.length) s p q v ll)) (fun i _ => 3 - (intOf i).toNat)
    case atStart =>
      refine Lib.hid ⟨wc.heap.size, wc.heap.size, .slice none 0 0, [], by simp, rfl, fun j hj => absurd hj (by simp), hg, hwb, ht6.1, OwnR.nil _ _ _, hb6, ht6, hb4, ht4, hrd.mono (by omega), htc⟩
    case round =>
      obtain ⟨B0, T, v, ll, h3, rfl, hrows, hst⟩ := hrel.out
      clear hrel hb6 ht6 hb4 ht4 hrd htc
      by_cases hlt : ll.length < 3
      · obtain ⟨av, cv, rfl⟩ := hst.own.shape
        have HST := Lib.hid hst
        have HRW := Lib.hid hrows
        have k0 := hst.box.out
        have f0 := hst.thaw.2
        have z0 := hst.thaw.1
        have zT := hst.own.top'.2
        clear hst hrows
        go_wp2
        go_region_law ((first
          | (go_simp; go_at_call 150; refine (l20Rows_c g _ s 0 _ (HST.out.rd.ext (by (repeat (first | exact Ext.refl _ | assumption | refine Ext.alloc ?_ _ | refine Ext.drewN ?_ _ | refine Ext.drew ?_)))) (by omega) (by omega) (by omega)).mono ?_; rintro e wk ⟨vk, L, rfl, ok, hLs, hL1, hrk, htk⟩; obtain ⟨ak, ck, rfl, -⟩ := ok.shape
             have hmk := Lib.hid (ModelSt.drawn (HST.out.ext (by (repeat (first | exact Ext.refl _ | assumption | refine Ext.alloc ?_ _ | refine Ext.drewN ?_ _ | refine Ext.drew ?_)))) htk hrk)
             have OK : Hid (OwnI wk T 3 (.slice ak L.length ck) L) := OwnI.mono ok (by (try simp); omega)
             have kk := hmk.out.box.out
             have fk := hmk.out.thaw.2
             have zk := hmk.out.thaw.1
             clear ok htk hrk)
          | (refine step_append_row rfl _ _ _ rfl B0 T 3 23 (by decide) Tryz.underlying24 infoInts _ ll rfl ((hmk.out.ext (by (repeat (first | exact Ext.refl _ | assumption | refine Ext.alloc ?_ _ | refine Ext.drewN ?_ _ | refine Ext.drew ?_)))).own) _ _ L (OwnI.ext OK.out (by (repeat (first | exact Ext.refl _ | assumption | refine Ext.alloc ?_ _ | refine Ext.drewN ?_ _ | refine Ext.drew ?_)))) rfl (by first | exact cell_new0 _ _ _ | simp) (by omega) ?_; intro v' w' ho' hgr
             have htt := OwnR.touched ((hmk.out.ext (by (repeat (first | exact Ext.refl _ | assumption | refine Ext.alloc ?_ _ | refine Ext.drewN ?_ _ | refine Ext.drew ?_)))).own) hgr
             obtain ⟨av', cv', rfl⟩ := ho'.shape
             have hturn := Lib.hid ((hmk.out.ext (by (repeat (first | exact Ext.refl _ | assumption | refine Ext.alloc ?_ _ | refine Ext.drewN ?_ _ | refine Ext.drew ?_)))).turned htt ho')
             have kx := hturn.out.1.out
             have fx := hturn.out.2.1.2
             have zx := hturn.out.2.1.1
             clear htt ho' hgr)
          | fail))
        all_goals
          go_wp2
          go_roundw
          case rel =>
            have hnew := hturn.out.2.2.2
            rw [show (ll ++ [L]).length = ll.length + 1 by simp] at hnew
            refine Lib.hid ⟨B0, _, _, ll ++ [L], ?_, by simp, rows_more HRW.out ⟨hLs, hL1⟩, ModelSt.mono hnew ?_⟩
            · rw [show (ll ++ [L]).length = ll.length + 1 by simp]; omega
            · rw [show (ll ++ [L]).length = ll.length + 1 by simp]; omega
          case measure => simp [intOf]; omega
      · go_wp2_with fail
        refine (pick_c g _ 3 _ (hst.rd.ext (by (repeat (first | exact Ext.refl _ | assumption | refine Ext.alloc ?_ _ | refine Ext.drewN ?_ _ | refine Ext.drew ?_)))) (by omega)).mono ?_
        rintro e wp ⟨x3, rfl, hx3, hrp, htp⟩
        replace hst := ModelSt.mono (m' := m + 350) (ModelSt.drawn (hst.ext (by (repeat (first | exact Ext.refl _ | assumption | refine Ext.alloc ?_ _ | refine Ext.drewN ?_ _ | refine Ext.drew ?_)))) htp hrp) (by omega)
        have hlen3 : 3 ≤ ll.length := by omega
        clear htp hrp
        go_upto_if 37 with fail
        go_cut [8, 9] (fun s8 s9 wx => Hid (∃ (B0 T : Nat) (v : Value) (ll : List (List Int)), 3 ≤ ll.length ∧ ll.length ≤ 3 ∧ (∀ j, j < ll.length → s ≤ (rowI ll j).length ∧ (rowI ll j).length ≤ s + 1) ∧ ModelSt w wx g b6 B0 T (m + 500) s p q v ll))
        case first =>
          by_cases hx0 : x3 = 0
          · subst hx0
            have HST := Lib.hid hst
            have HRW := Lib.hid hrows
            clear hst hrows
            go_wp2
            go_loopw [8, 9] (fun i j wr => Hid (∃ (k B0 T : Nat) (v : Value) (ll : List (List Int)), k ≤ 3 ∧ i = .int .i64 k ∧ 3 ≤ ll.length ∧ ll.length ≤ 3 ∧ (∀ j, j < ll.length → s ≤ (rowI ll j).length ∧ (rowI ll j).length ≤ s + 1) ∧ ModelSt w wr g b6 B0 T (m + 350 + 10 * k) s p q v ll)) (fun i _ _ => 3 - (intOf i).toNat)
            case atStart => exact Lib.hid ⟨0, B0, T, v, ll, by omega, rfl, hlen3, h3, HRW.out, HST.out⟩
            case round =>
              clear HST HRW hlen3 h3 hlt
              obtain ⟨k, B1, T1, v1, l1, hk, rfl, hl1, hl2, hrow1, hst1⟩ := hrel.out
              clear hrel
              by_cases hk3 : k < 3
              · have HS1 := Lib.hid hst1
                have HR1 := Lib.hid hrow1
                clear hst1 hrow1
                have hkb : decide ((k : Int) < 3) = true := by simp; omega
                go_wp2
                go_loopw [9] (fun j wr => Hid (∃ (t B0 T : Nat) (v : Value) (ll : List (List Int)), t ≤ s ∧ j = .int .i64 t ∧ 3 ≤ ll.length ∧ ll.length ≤ 3 ∧ (∀ j, j < ll.length → s ≤ (rowI ll j).length ∧ (rowI ll j).length ≤ s + 1) ∧ ModelSt w wr g b6 B0 T (m + 350 + 10 * k + t) s p q v ll)) (fun j _ => s - (intOf j).toNat)
                case atStart => exact Lib.hid ⟨0, B1, T1, v1, l1, by omega, rfl, hl1, hl2, HR1.out, HS1.out⟩
                case round =>
                  clear HS1 HR1 hl1 hl2
                  obtain ⟨t, B2, T2, v2, l2, ht, rfl, hm1, hm2, hrow2, hst2⟩ := hrel.out
                  clear hrel
                  by_cases htl : t < s
                  · obtain ⟨av, cv, rfl⟩ := hst2.own.shape
                    obtain ⟨gv, rfl, hBv, hTv, hsv, -, -, hrw⟩ := OwnRk.row hst2.own (Nat.le_refl _) (by omega)
                    obtain ⟨ai, ci, hck, hoi⟩ := hrw k (by omega)
                    have hrk := hrow2 k (by omega)
                    obtain ⟨gi, ci', he, hBi, hsi, hcell, hfz⟩ := OwnI.row hoi (by omega)
                    obtain ⟨rfl, rfl⟩ : ai = some ⟨gi, 0, none⟩ ∧ ci = ci' := by simpa using he
                    have hct := hcell t (by omega)
                    have hkl : k < l2.length := by omega
                    have htl2 : t < (rowI l2 k).length := by omega
                    have hft := hfz t
                    have k0 := hst2.box.out
                    have hbb := hst2.hb
                    have HS2 := Lib.hid hst2
                    have HR2 := Lib.hid hrow2
                    have HOI := Lib.hid hoi
                    have HCK := Lib.hid hck
                    clear hrw he hcell hfz hst2 hrow2 hoi
                    go_wp2
                    go_region_law ((first
                      | (go_simp; go_at_call 54; refine (pick_c g _ s _ (HS2.out.rd.ext (by (repeat (first | exact Ext.refl _ | assumption | refine Ext.alloc ?_ _ | refine Ext.drewN ?_ _ | refine Ext.drew ?_)))) (by omega)).mono ?_; rintro e wk ⟨y, rfl, hy, hrk2, htk⟩
                         have hmk := Lib.hid (ModelSt.drawn (HS2.out.ext (by (repeat (first | exact Ext.refl _ | assumption | refine Ext.alloc ?_ _ | refine Ext.drewN ?_ _ | refine Ext.drew ?_)))) htk hrk2)
                         have hkk := cell_drawn htk (by (repeat (first | exact Ext.refl _ | assumption | refine Ext.alloc ?_ _ | refine Ext.drewN ?_ _ | refine Ext.drew ?_))) (by omega) hsv hck
                         have hkt := cell_drawn htk (by (repeat (first | exact Ext.refl _ | assumption | refine Ext.alloc ?_ _ | refine Ext.drewN ?_ _ | refine Ext.drew ?_))) (by omega) hsi hct
                         have hkf := frozen_drawn htk (by (repeat (first | exact Ext.refl _ | assumption | refine Ext.alloc ?_ _ | refine Ext.drewN ?_ _ | refine Ext.drew ?_))) (by omega) hsi hft
                         have hko := Lib.hid (OwnI.drawn (OwnI.ext HOI.out (by (repeat (first | exact Ext.refl _ | assumption | refine Ext.alloc ?_ _ | refine Ext.drewN ?_ _ | refine Ext.drew ?_)))) htk (by omega))
                         have kk := hmk.out.box.out
                         have hzi : gi < wk.heap.size := by have := htk.size; (try simp at this); omega
                         have hpy := pow2_cast y
                         have hp1 : pow2 y ≤ 64 := pow2_le y 6 (by omega)
                         have hwy : IntKind.i64.wrap ((pow2 y : Nat) : Int) = ((pow2 y : Nat) : Int) := IntWalk.i64_in _ (by omega)
                         clear htk hrk2)
                      | fail))
                    all_goals
                      have hgr : wk.grownBy (wk.setCell ⟨gi, t, none⟩ (.int .i64 ((pow2 y : Nat) : Int))) (some gi) := grown_setCell ((Ext.refl wk).grown (some gi)) rfl
                      have hset : OwnI (wk.setCell ⟨gi, t, none⟩ (.int .i64 ((pow2 y : Nat) : Int))) B2 3 (.slice (some ⟨gi, 0, none⟩) (rowI l2 k).length ci) ((rowI l2 k).set t ((pow2 y : Nat) : Int)) := by
                        have := OwnI.set hko.out t ((pow2 y : Nat) : Int)
                        rw [List.length_set] at this
                        exact this
                      have hput := OwnR.put (by omega) hmk.out.own hkk (by rw [List.length_set]) hset hgr
                      have hnew := Lib.hid ((hmk.out.turned hput.2 hput.1).2.2.1 rfl)
                      clear hset hput hgr
                      go_wp2
                      go_roundw
                      case rel => exact Lib.hid ⟨t + 1, B2, T2, _, _, by omega, by go_num, by rw [List.length_set]; exact hm1, by rw [List.length_set]; exact hm2, rows_put HR2.out, hnew.out.mono (by omega)⟩
                      case measure => simp [intOf]; omega
                  · obtain rfl : t = s := by omega
                    go_wp2
                    go_roundw
                    case rel => exact Lib.hid ⟨k + 1, B2, T2, v2, l2, by omega, by go_num, hm1, hm2, hrow2, hst2.mono (by omega)⟩
                    case measure => simp [intOf]; omega
              · go_wp2
                go_meet
                case rel => exact Lib.hid ⟨B1, T1, v1, l1, hl1, hl2, hrow1, hst1.mono (by omega)⟩
          · go_wp2
            go_meet
            case rel => exact Lib.hid ⟨B0, T, v, ll, hlen3, h3, hrows, hst.mono (by omega)⟩
        case rest =>
          clear hst hrows h3 hlen3 hlt hx3
          obtain ⟨B1, T1, v1, l1, hl1, hl2, hrow1, hst1⟩ := hcut.out
          clear hcut
          go_wp2_with fail
          refine (odd_c g _ n _ (hst1.rd.ext (by (repeat (first | exact Ext.refl _ | assumption | refine Ext.alloc ?_ _ | refine Ext.drewN ?_ _ | refine Ext.drew ?_)))) (by omega)).mono ?_
          rintro e wo ⟨b, rfl, hro, hto⟩
          have hst2 := ModelSt.mono (m' := m + 502) (ModelSt.drawn (hst1.ext (by (repeat (first | exact Ext.refl _ | assumption | refine Ext.alloc ?_ _ | refine Ext.drewN ?_ _ | refine Ext.drew ?_)))) hto hro) (by omega)
          clear hst1 hto hro
          have hrow8 : ∀ j, j < l1.length → (rowI l1 j).length ≤ 8 := fun j hj => by have := hrow1 j hj; omega
          have HR1 := Lib.hid hrow1
          have HR8 := Lib.hid hrow8
          clear hrow1 hrow8
          obtain ⟨av, cv, rfl⟩ := hst2.own.shape
          have hcv := OwnR.cap hst2.own
          cases b
          · have k1 := hst2.box.out
            have kr := hst2.res.out
            have fr := hst2.rth.2
            have zr := hst2.rth.1
            have hfin := Lib.hid (And.intro (hst2.own.rowsFrom.mono (B' := w.heap.size + 1) (by have := hst2.hb; omega)) (And.intro hst2.rd hst2.tch))
            clear hst2
            go_wp2
            refine bodyPost_ret (v := .agg #[.int .i64 s, .int .i64 p, .int .i64 q, .slice av l1.length cv]) (by simp [results, Tryz.results97, go_sem, kr]) rfl ?_
            refine drewM_of hg hfin.out.1 hfin.out.2.1 (by omega) hfin.out.2.2 hs5 hcv hl2 HR8.out ?_
            (repeat (first | exact Touched.refl _ _ _ | refine Touched.setIn ?_ (by dsimp only; omega) (by dsimp only; omega) _))
          · go_wp2_with fail
            refine (pick_c g _ 4 _ (hst2.rd.ext (by (repeat (first | exact Ext.refl _ | assumption | refine Ext.alloc ?_ _ | refine Ext.drewN ?_ _ | refine Ext.drew ?_)))) (by omega)).mono ?_
            rintro e wq ⟨z, rfl, hz, hrz, htz⟩
            have hst := ModelSt.mono (m' := m + 510) (ModelSt.drawn (hst2.ext (by (repeat (first | exact Ext.refl _ | assumption | refine Ext.alloc ?_ _ | refine Ext.drewN ?_ _ | refine Ext.drew ?_)))) htz hrz) (by omega)
            clear hst2 htz hrz
            have k1 := hst.box.out
            have kr := hst.res.out
            have fr := hst.rth.2
            have zr := hst.rth.1
            have f6 := hst.thaw.2
            have z6 := hst.thaw.1
            have HST := Lib.hid hst
            clear hst
            by_cases hz0 : z = 0
            · subst hz0
              go_wp2
              refine bodyPost_ret (v := .agg #[.int .i64 0, .int .i64 0, .int .i64 0, .slice none 0 0]) (by simp [results, Tryz.results97, go_sem, kr]) rfl ?_
              refine drewM_of (s := 0) (ll := []) hg (RowsFrom.nil wq _ _) HST.out.rd (by omega) HST.out.tch (by omega) (by simp) (by simp) (fun i hi => absurd hi (by simp)) ?_
              (repeat (first | exact Touched.refl _ _ _ | refine Touched.setIn ?_ (by dsimp only; omega) (by dsimp only; omega) _))
            · by_cases hz1 : z = 1
              · subst hz1
                have hfin := Lib.hid (HST.out.setP ((pow2 s : Nat) : Int))
                go_wp2
                refine bodyPost_ret (v := .agg #[.int .i64 s, .int .i64 ((pow2 s : Nat) : Int), .int .i64 q, .slice av l1.length cv]) (by simp [results, Tryz.results97, go_sem, kr]) rfl ?_
                refine drewM_of hg (hfin.out.own.rowsFrom.mono (B' := w.heap.size + 1) (by have := hfin.out.hb; omega)) hfin.out.rd (by omega) hfin.out.tch hs5 hcv hl2 HR8.out ?_
                (repeat (first | exact Touched.refl _ _ _ | refine Touched.setIn ?_ (by dsimp only; omega) (by dsimp only; omega) _))
              · by_cases hz2 : z = 2
                · subst hz2
                  obtain ⟨gv, rfl, hBv, hTv, hsv, -, -, -⟩ := OwnRk.row HST.out.own (Nat.le_refl _) (by omega)
                  have hc3 : 3 ≤ cv := by omega
                  have hbb := HST.out.hb
                  have hfr := Lib.hid (HST.out.own.rowsFrom.tail.mono (B' := w.heap.size + 1) (by omega))
                  have hl3 : (l1.drop 1).length = l1.length - 1 := by simp
                  go_wp2
                  refine bodyPost_ret (v := .agg #[.int .i64 s, .int .i64 p, .int .i64 q, .slice (some ⟨gv, 1, none⟩) (l1.length - 1) (cv - 1)]) (by simp [results, Tryz.results97, go_sem, kr]) rfl ?_
                  rw [← hl3]
                  refine drewM_of (wX := wq.setCell ⟨b6, 3, none⟩ (.slice (some ⟨gv, 1, none⟩) (l1.length - 1) (cv - 1))) hg ?_ (HST.out.rd.untouched (Touched.setCell wq ⟨b6, 3, none⟩ _) (by show g < b6; omega)) (by omega) (HST.out.tch.high (Touched.setCell wq ⟨b6, 3, none⟩ _) (by show w.heap.size ≤ b6; omega)) hs5 (by rw [hl3]; omega) (by rw [hl3]; omega) ?_ ?_
                  · refine RowsFrom.mono (B := B1) ?_ (by omega)
                    exact HST.out.own.rowsFrom.tail.untouched (Touched.setCell wq ⟨b6, 3, none⟩ _) (by show b6 + 1 ≤ B1; omega)
                  · intro j hj
                    have hj2 : j + 1 < l1.length := by rw [hl3] at hj; omega
                    have e : rowI (l1.drop 1) j = rowI l1 (j + 1) := by
                      rw [rowI_getElem _ _ hj, rowI_getElem _ _ hj2]; simp
                    rw [e]; exact HR8.out _ hj2
                  · rw [hl3]
                    (repeat (first | exact Touched.refl _ _ _ | refine Touched.setIn ?_ (by dsimp only; omega) (by dsimp only; omega) _))
                · obtain ⟨gv, rfl, hBv, hTv, hsv, hfv, -, hrw⟩ := OwnRk.row HST.out.own (Nat.le_refl _) (by omega)
                  obtain ⟨ai, ci, hck, -⟩ := hrw 1 (by omega)
                  have hf1 := hfv 1
                  have hbb := HST.out.hb
                  have zT := HST.out.own.top'.2
                  have hws : IntKind.i64.wrap ((s : Int) + 1) = ((s + 1 : Nat) : Int) := by rw [IntWalk.i64_in _ (by omega)]; omega
                  have hl1' : 1 < l1.length := by omega
                  have hl1i : (1 : Int) < (l1.length : Int) := by omega
                  have HCK := Lib.hid hck
                  clear hrw hfv
                  go_wp2
                  go_region_law ((first
                    | (go_simp; go_at_call 150; refine (l20Rows_c g _ (s + 1) 0 _ (HST.out.rd.ext (by (repeat (first | exact Ext.refl _ | assumption | refine Ext.alloc ?_ _ | refine Ext.drewN ?_ _ | refine Ext.drew ?_)))) (by omega) (by omega) (by omega)).mono ?_; rintro e wk ⟨vk, L, rfl, ok, hLs, hL1, hrk, htk⟩; obtain ⟨ak, ck, rfl, -⟩ := ok.shape
                       have hmk := Lib.hid (ModelSt.drawn (HST.out.ext (by (repeat (first | exact Ext.refl _ | assumption | refine Ext.alloc ?_ _ | refine Ext.drewN ?_ _ | refine Ext.drew ?_)))) htk hrk)
                       have OK : Hid (OwnI wk T1 3 (.slice ak L.length ck) L) := OwnI.mono ok (by (try simp); omega)
                       have hkk := cell_drawn htk (by (repeat (first | exact Ext.refl _ | assumption | refine Ext.alloc ?_ _ | refine Ext.drewN ?_ _ | refine Ext.drew ?_))) (by omega) hsv hck
                       have hkf := frozen_drawn htk (by (repeat (first | exact Ext.refl _ | assumption | refine Ext.alloc ?_ _ | refine Ext.drewN ?_ _ | refine Ext.drew ?_))) (by omega) hsv hf1
                       have kk := hmk.out.box.out
                       have hzg : gv < wk.heap.size := by have := htk.size; (try simp at this); omega
                       clear ok htk hrk)
                    | fail))
                  all_goals
                    have hx := Lib.hid (OwnR.exchange hl1' hmk.out.own OK.out)
                    have hbY := (hmk.out.box.setOther (c := gv) (i := 1) (v' := .slice ak L.length ck) (by omega)).out
                    have hrY := (hmk.out.res.setOther (c := gv) (i := 1) (v' := .slice ak L.length ck) (by omega)).out
                    have hfY := (hmk.out.rth.setCell ⟨gv, 1, none⟩ (.slice ak L.length ck)).2
                    have hzY := (hmk.out.rth.setCell ⟨gv, 1, none⟩ (.slice ak L.length ck)).1
                    have hdY := Lib.hid (hmk.out.rd.untouched (Touched.setCell wk ⟨gv, 1, none⟩ (.slice ak L.length ck)) (by show g < gv; omega))
                    have htY := Lib.hid (hmk.out.tch.high (Touched.setCell wk ⟨gv, 1, none⟩ (.slice ak L.length ck)) (by show w.heap.size ≤ gv; omega))
                    have hl8 := Lib.hid (rows_xchg HR1.out hs5 (L := L) (by omega))
                    have hll : (l1.set 1 L).length = l1.length := by simp
                    generalize wk.setCell ⟨gv, 1, none⟩ (.slice ak L.length ck) = wY at *
                    go_wp2
                    refine bodyPost_ret (v := .agg #[.int .i64 s, .int .i64 p, .int .i64 q, .slice (some ⟨gv, 0, none⟩) l1.length cv]) (by simp [results, Tryz.results97, go_sem, hrY]) rfl ?_
                    rw [← hll]
                    refine drewM_of (wX := wY) hg (hx.out.mono (by omega)) hdY.out (by omega) htY.out hs5 (by rw [hll]; exact hcv) (by rw [hll]; exact hl2) hl8.out ?_
                    (try rw [hll])
                    (repeat (first | exact Touched.refl _ _ _ | refine Touched.setIn ?_ (by dsimp only; omega) (by dsimp only; omega) _))
end Go.Proofs.YtlaamecfknkmlaaGreat
namespace Go.Proofs.YtlaamecfknkmlaaGreat
set_option linter.unusedVariables false
open Go.RowKit Go.Kt

theorem drawn_rows {w w2 w' : World} {a : Option Addr} {ll : List (List Int)} (hx : Ext w w2) (hr : RowsFrom w2 (w.heap.size + 1) a ll) (t : Touched w2 w' w.heap.size (w.heap.size + 1)) : RowsAt w' a ll ∧ Ext w w' :=
  ⟨(hr.untouched t (Nat.le_refl _)).rows, t.ext hx (Nat.le_refl _)⟩
theorem box_zero (w : World) (t : TypeId) : BoxM (w.alloc (.cells #[.int .i64 0, .int .i64 0, .int .i64 0, .slice none 0 0] t)) w.heap.size 0 0 0 (.slice none 0 0) := by simp [BoxM, go_sem]
theorem box_made (w : World) (t : TypeId) (st p q : Int) (v : Value) : BoxM (w.alloc (.cells #[.int .i64 st, .int .i64 p, .int .i64 q, v] t)) w.heap.size st p q v := by simp [BoxM, go_sem]
theorem thaw_zero (w : World) (xs : Array Value) (t : TypeId) : Thawed (w.alloc (.cells xs t)) w.heap.size := ⟨by simp, fun o => by simp [go_sem]⟩
end Go.Proofs.YtlaamecfknkmlaaGreat
namespace Go.Proofs.YtlaamecfknkmlaaGreat
set_option linter.unusedVariables false
open Go.RowKit Go.Kt

/-- What drawing a model, an expression and a set comes to. -/
def DrewMd (w : World) (g m : Nat) (e : Ending) (w' : World) : Prop :=
  ∃ (st : Nat) (p q : Int) (a : Option Addr) (cap : Nat) (ll : List (List Int)) (v : Value) (L : List Int) (x : Int), e = .returned (.tuple #[modelV st p q a ll.length cap, v, .int .i64 x]) ∧ st ≤ 5 ∧ RowsFrom w' w.heap.size a ll ∧ ll.length ≤ cap ∧ ll.length ≤ 3 ∧ (∀ i, i < ll.length → (rowI ll i).length ≤ 8) ∧
    OwnI w' w.heap.size 3 v L ∧ L.length ≤ 41 ∧ Rd w' g (m + 1700) ∧ Touched w w' g (g + 1)
theorem keepMd {w1 wx w2 : World} {g b c : Nat} {st p q : Int} {v : Value} (h : w1.cell? ⟨b, 0, none⟩ = some (.int .i64 st) ∧ w1.cell? ⟨b, 1, none⟩ = some (.int .i64 p) ∧ w1.cell? ⟨b, 2, none⟩ = some (.int .i64 q) ∧ w1.cell? ⟨b, 3, none⟩ = some v ∧ w1.frozen? ⟨c, 0, none⟩ = false ∧ w1.frozen? ⟨c, 1, none⟩ = false ∧ w1.frozen? ⟨c, 2, none⟩ = false ∧ w1.frozen? ⟨c, 3, none⟩ = false ∧ c < w1.heap.size) (e : Ext w1 wx) (t : Touched wx w2 g (g + 1)) (h1 : g ≠ b) (h2 : g ≠ c) : w2.cell? ⟨b, 0, none⟩ = some (.int .i64 st) ∧ w2.cell? ⟨b, 1, none⟩ = some (.int .i64 p) ∧ w2.cell? ⟨b, 2, none⟩ = some (.int .i64 q) ∧ w2.cell? ⟨b, 3, none⟩ = some v ∧ w2.frozen? ⟨c, 0, none⟩ = false ∧ w2.frozen? ⟨c, 1, none⟩ = false ∧ w2.frozen? ⟨c, 2, none⟩ = false ∧ w2.frozen? ⟨c, 3, none⟩ = false ∧ c < w2.heap.size := by
  obtain ⟨c0, c1, c2, c3, f0, f1, f2, f3, hz⟩ := h
  have hb := BoxM.untouched (BoxM.ext (show BoxM w1 b st p q v from ⟨c0, c1, c2, c3⟩) e) t (by omega)
  have hf : ∀ o, w1.frozen? ⟨c, o, none⟩ = false → w2.frozen? ⟨c, o, none⟩ = false := fun o ho =>
    (World.frozen?_of_block (a := ⟨c, o, none⟩) ((t.block c (Nat.lt_of_lt_of_le hz e.size) (by omega)).trans (e.block c hz))).trans ho
  exact ⟨hb.1, hb.2.1, hb.2.2.1, hb.2.2.2, hf 0 f0, hf 1 f1, hf 2 f2, hf 3 f3, Nat.lt_of_lt_of_le hz (Nat.le_trans e.size t.size)⟩
theorem keepMd0 {w2 : World} {c st : Nat} {p q : Int} {v : Value} (hb : BoxM (w2.alloc (.cells #[.int .i64 st, .int .i64 p, .int .i64 q, v] 37)) w2.heap.size st p q v) (h : Thawed w2 c) : (w2.alloc (.cells #[.int .i64 st, .int .i64 p, .int .i64 q, v] 37)).cell? ⟨w2.heap.size, 0, none⟩ = some (.int .i64 (st : Int)) ∧ (w2.alloc (.cells #[.int .i64 st, .int .i64 p, .int .i64 q, v] 37)).cell? ⟨w2.heap.size, 1, none⟩ = some (.int .i64 p) ∧ (w2.alloc (.cells #[.int .i64 st, .int .i64 p, .int .i64 q, v] 37)).cell? ⟨w2.heap.size, 2, none⟩ = some (.int .i64 q) ∧ (w2.alloc (.cells #[.int .i64 st, .int .i64 p, .int .i64 q, v] 37)).cell? ⟨w2.heap.size, 3, none⟩ = some v ∧ (w2.alloc (.cells #[.int .i64 st, .int .i64 p, .int .i64 q, v] 37)).frozen? ⟨c, 0, none⟩ = false ∧ (w2.alloc (.cells #[.int .i64 st, .int .i64 p, .int .i64 q, v] 37)).frozen? ⟨c, 1, none⟩ = false ∧ (w2.alloc (.cells #[.int .i64 st, .int .i64 p, .int .i64 q, v] 37)).frozen? ⟨c, 2, none⟩ = false ∧ (w2.alloc (.cells #[.int .i64 st, .int .i64 p, .int .i64 q, v] 37)).frozen? ⟨c, 3, none⟩ = false ∧ c < (w2.alloc (.cells #[.int .i64 st, .int .i64 p, .int .i64 q, v] 37)).heap.size := by
  have hx : Ext w2 (w2.alloc (.cells #[.int .i64 st, .int .i64 p, .int .i64 q, v] 37)) := (Ext.refl _).alloc _
  exact ⟨hb.1, hb.2.1, hb.2.2.1, hb.2.2.2, (hx.frozen (p := ⟨c, 0, none⟩) h.1).trans (h.2 0), (hx.frozen (p := ⟨c, 1, none⟩) h.1).trans (h.2 1), (hx.frozen (p := ⟨c, 2, none⟩) h.1).trans (h.2 2), (hx.frozen (p := ⟨c, 3, none⟩) h.1).trans (h.2 3), Nat.lt_of_lt_of_le h.1 hx.size⟩
set_option maxRecDepth 100000 in
set_option maxHeartbeats 1000000 in
theorem l20Modelled_c (g m : Nat) (w : World) (h : Rd w g m) (hm : m ≤ 10000) :
    Calls Tryz.prog 78 #[.pointer (some ⟨g, 0, none⟩)] w (DrewMd w g m) := by
  have hg := h.lt
  have HH := Lib.hid h
  clear h
  go_enter Tryz.func78, Tryz.ntmps78
  go_wp2_with fail
  refine (l20Model_c g m 12 _ (HH.out.ext (by (repeat (first | exact Ext.refl _ | assumption | refine Ext.alloc ?_ _ | refine Ext.drewN ?_ _ | refine Ext.drew ?_)))) (by omega)).mono ?_
  rintro e w2 ⟨st, p, q, a2, c2, ll, rfl, hst, hrw, hlc, h3, h8, hr2, htc⟩
  have hb := Lib.hid (box_zero w 37)
  have ht := Lib.hid (thaw_zero w #[.int .i64 0, .int .i64 0, .int .i64 0, .slice none 0 0] 37)
  have hb2 := Lib.hid (hb.out.untouched htc (.inr (by omega)))
  have ht2 := Lib.hid (ht.out.untouched htc (.inr (by omega)))
  have zz2 := htc.size
  simp only [World.size_alloc] at zz2
  have HT2 := Lib.hid (Touched.trans (Touched.of_ext (show Ext w _ by (repeat (first | exact Ext.refl _ | assumption | refine Ext.alloc ?_ _ | refine Ext.drewN ?_ _ | refine Ext.drew ?_)))) htc)
  have HR2 := Lib.hid hr2
  have HRW2 := Lib.hid (hrw.mono (B' := w.heap.size + 1) (by simp))
  clear htc hr2 hrw hb ht
  have hmx : (if (st : Int) < 1 then (1 : Int) else (st : Int)) = ((max st 1 : Nat) : Int) := by split <;> omega
  obtain ⟨mx, hmxe⟩ : ∃ mx, mx = max st 1 := ⟨_, rfl⟩
  have hmx5 : mx ≤ 5 := by omega
  rw [← hmxe] at hmx
  have hmn : (if (5 : Int) < (mx : Int) then (5 : Int) else (mx : Int)) = (mx : Int) := if_neg (by omega)
  have hmn2 : (if (mx : Int) < 5 then (mx : Int) else (5 : Int)) = (mx : Int) := by split <;> omega
  have hpc := pow2_cast mx
  have hp32 : pow2 mx ≤ 32 := pow2_le mx 5 hmx5
  have hwp : IntKind.i64.wrap ((pow2 mx : Nat) : Int) = ((pow2 mx : Nat) : Int) := IntWalk.i64_in _ (by omega)
  clear hmxe
  go_wp2
  have HBM := Lib.hid (box_made w2 37 st p q (.slice a2 ll.length c2))
  have zz3 : w.heap.size < w2.heap.size := zz2
  have zz4 : w.heap.size < w2.heap.size + 1 := by omega
  have hk2 := keepMd0 HBM.out ht2.out
  have hne1 : ¬ w.heap.size = w2.heap.size := by omega
  have hne2 : ¬ w2.heap.size = w.heap.size := by omega
  go_region_held3 (fun w' => w'.cell? ⟨w2.heap.size, 0, none⟩ = some (.int .i64 st) ∧ w'.cell? ⟨w2.heap.size, 1, none⟩ = some (.int .i64 p) ∧ w'.cell? ⟨w2.heap.size, 2, none⟩ = some (.int .i64 q) ∧ w'.cell? ⟨w2.heap.size, 3, none⟩ = some (.slice a2 ll.length c2) ∧ w'.frozen? ⟨w.heap.size, 0, none⟩ = false ∧ w'.frozen? ⟨w.heap.size, 1, none⟩ = false ∧ w'.frozen? ⟨w.heap.size, 2, none⟩ = false ∧ w'.frozen? ⟨w.heap.size, 3, none⟩ = false ∧ w.heap.size < w'.heap.size)
    (first
      | go_keep
      | exact hk6
      | exact hk5
      | exact hk4
      | exact hk3
      | exact hk2)
    ((first
      | (go_at_call 54; have _t := hk5; refine (pick_c g _ _ _ (hr5.out.ext (by (repeat (first | exact Ext.refl _ | assumption | refine Ext.alloc ?_ _ | refine Ext.drewN ?_ _ | refine Ext.drew ?_)))) (by omega)).mono ?_; rintro e w6 ⟨x6, rfl, hx6, hr6, ht6⟩
         have hk6 := keepMd hk5 (by (repeat (first | exact Ext.refl _ | assumption | refine Ext.alloc ?_ _ | refine Ext.drewN ?_ _ | refine Ext.drew ?_))) ht6 (by omega) (by omega)
         obtain ⟨d6, hd6, hyd6⟩ : ∃ d : Nat, d ≤ 1 ∧ ((x6 : Int)).tdiv 39 = (d : Int) := ⟨x6 / 39, by omega, rfl⟩
         have hbr6 := BoxM.untouched (BoxM.ext hbr5.out (by (repeat (first | exact Ext.refl _ | assumption | refine Ext.alloc ?_ _ | refine Ext.drewN ?_ _ | refine Ext.drew ?_)))) ht6 (.inr (by omega))
         obtain ⟨r0, r1, r2, r3⟩ := hbr6.out
         have O6 := Lib.hid (OwnI.drawn (O5.out.ext (by (repeat (first | exact Ext.refl _ | assumption | refine Ext.alloc ?_ _ | refine Ext.drewN ?_ _ | refine Ext.drew ?_)))) ht6 hgw)
         have HR6 := Lib.hid hr6
         have KT6 : Hid (Touched w2 w6 g (g + 1)) := Touched.trans (KT5.out) (Touched.trans (Touched.of_ext (by (repeat (first | exact Ext.refl _ | assumption | refine Ext.alloc ?_ _ | refine Ext.drewN ?_ _ | refine Ext.drew ?_)))) ht6)
         have HT6 := Lib.hid (HT5.out.trans (Touched.trans (Touched.of_ext (by (repeat (first | exact Ext.refl _ | assumption | refine Ext.alloc ?_ _ | refine Ext.drewN ?_ _ | refine Ext.drew ?_)))) ht6))
         have hx32 : (x4 : Int) ≤ 32 := by omega
         have hd5' : (d5 : Int) ≤ 1 := by omega
         have hd6' : (d6 : Int) ≤ 1 := by omega
         have hq1 : IntKind.i64.wrap ((d5 : Int) * 32) = (d5 : Int) * 32 := IntWalk.i64_in _ (by omega)
         have hq2 : IntKind.i64.wrap ((d6 : Int) * 40) = (d6 : Int) * 40 := IntWalk.i64_in _ (by omega)
         have hq3 : IntKind.i64.wrap ((x4 : Int) + (d5 : Int) * 32) = (x4 : Int) + (d5 : Int) * 32 := IntWalk.i64_in _ (by omega)
         have hq4 : IntKind.i64.wrap ((x4 : Int) + (d5 : Int) * 32 - (d6 : Int) * 40) = (x4 : Int) + (d5 : Int) * 32 - (d6 : Int) * 40 := IntWalk.i64_in _ (by omega)
         have hq5 : IntKind.i64.wrap (d5 : Int) = (d5 : Int) := IntWalk.i64_in _ (by omega)
         have hq6 : IntKind.i64.wrap (d6 : Int) = (d6 : Int) := IntWalk.i64_in _ (by omega)
         clear hr6 ht6)
      | (go_at_call 54; have _t := hk4; refine (pick_c g _ _ _ (hr4.out.ext (by (repeat (first | exact Ext.refl _ | assumption | refine Ext.alloc ?_ _ | refine Ext.drewN ?_ _ | refine Ext.drew ?_)))) (by omega)).mono ?_; rintro e w5 ⟨x5, rfl, hx5, hr5', ht5⟩
         have hk5 := keepMd hk4 (by (repeat (first | exact Ext.refl _ | assumption | refine Ext.alloc ?_ _ | refine Ext.drewN ?_ _ | refine Ext.drew ?_))) ht5 (by omega) (by omega)
         obtain ⟨d5, hd5, hyd5⟩ : ∃ d : Nat, d ≤ 1 ∧ ((x5 : Int)).tdiv 39 = (d : Int) := ⟨x5 / 39, by omega, rfl⟩
         have hbr5 := Lib.hid (BoxM.untouched (BoxM.ext hbr4.out (by (repeat (first | exact Ext.refl _ | assumption | refine Ext.alloc ?_ _ | refine Ext.drewN ?_ _ | refine Ext.drew ?_)))) ht5 (.inr (by omega)))
         have O5 := Lib.hid (OwnI.drawn (O4.out.ext (by (repeat (first | exact Ext.refl _ | assumption | refine Ext.alloc ?_ _ | refine Ext.drewN ?_ _ | refine Ext.drew ?_)))) ht5 hgw)
         have hr5 := Lib.hid hr5'
         have KT5 : Hid (Touched w2 w5 g (g + 1)) := Touched.trans (KT4.out) (Touched.trans (Touched.of_ext (by (repeat (first | exact Ext.refl _ | assumption | refine Ext.alloc ?_ _ | refine Ext.drewN ?_ _ | refine Ext.drew ?_)))) ht5)
         have HT5 := Lib.hid (HT4.out.trans (Touched.trans (Touched.of_ext (by (repeat (first | exact Ext.refl _ | assumption | refine Ext.alloc ?_ _ | refine Ext.drewN ?_ _ | refine Ext.drew ?_)))) ht5))
         clear hr5' ht5)
      | (go_at_call 54; have _t := hk3; refine (pick_c g _ _ _ (hr3.out.ext (by (repeat (first | exact Ext.refl _ | assumption | refine Ext.alloc ?_ _ | refine Ext.drewN ?_ _ | refine Ext.drew ?_)))) (by omega)).mono ?_; rintro e w4 ⟨x4, rfl, hx4, hr4', ht4⟩
         have hk4 := keepMd hk3 (by (repeat (first | exact Ext.refl _ | assumption | refine Ext.alloc ?_ _ | refine Ext.drewN ?_ _ | refine Ext.drew ?_))) ht4 (by omega) (by omega)
         have hbr4 := Lib.hid (BoxM.untouched (BoxM.ext hbr3.out (by (repeat (first | exact Ext.refl _ | assumption | refine Ext.alloc ?_ _ | refine Ext.drewN ?_ _ | refine Ext.drew ?_)))) ht4 (.inr (by omega)))
         have O4 := Lib.hid (OwnI.drawn (O3.out.ext (by (repeat (first | exact Ext.refl _ | assumption | refine Ext.alloc ?_ _ | refine Ext.drewN ?_ _ | refine Ext.drew ?_)))) ht4 hgw)
         have hr4 := Lib.hid hr4'
         have KT4 : Hid (Touched w2 w4 g (g + 1)) := Touched.trans (KT3.out) (Touched.trans (Touched.of_ext (by (repeat (first | exact Ext.refl _ | assumption | refine Ext.alloc ?_ _ | refine Ext.drewN ?_ _ | refine Ext.drew ?_)))) ht4)
         have HT4 := Lib.hid (HT3.out.trans (Touched.trans (Touched.of_ext (by (repeat (first | exact Ext.refl _ | assumption | refine Ext.alloc ?_ _ | refine Ext.drewN ?_ _ | refine Ext.drew ?_)))) ht4))
         clear hr4' ht4)
      | (go_at_call 137; refine (l20Prog_c g _ 6 12 _ (HR2.out.ext (by (repeat (first | exact Ext.refl _ | assumption | refine Ext.alloc ?_ _ | refine Ext.drewN ?_ _ | refine Ext.drew ?_)))) (by decide) (by omega)).mono ?_; rintro e w3 ⟨v3, L3, rfl, o3, hl3, hr3', ht3⟩
         have hk3 := keepMd hk2 (by (repeat (first | exact Ext.refl _ | assumption | refine Ext.alloc ?_ _ | refine Ext.drewN ?_ _ | refine Ext.drew ?_))) ht3 (by omega) (by omega)
         have hbr3 := Lib.hid (BoxM.untouched (BoxM.ext hb2.out (by (repeat (first | exact Ext.refl _ | assumption | refine Ext.alloc ?_ _ | refine Ext.drewN ?_ _ | refine Ext.drew ?_)))) ht3 (.inr (by omega)))
         have hr3 := Lib.hid hr3'
         have KT3 : Hid (Touched w2 w3 g (g + 1)) := Touched.trans (Touched.of_ext (Ext.refl w2)) (Touched.trans (Touched.of_ext (by (repeat (first | exact Ext.refl _ | assumption | refine Ext.alloc ?_ _ | refine Ext.drewN ?_ _ | refine Ext.drew ?_)))) ht3)
         have HT3 := Lib.hid (HT2.out.trans (Touched.trans (Touched.of_ext (by (repeat (first | exact Ext.refl _ | assumption | refine Ext.alloc ?_ _ | refine Ext.drewN ?_ _ | refine Ext.drew ?_)))) ht3))
         have O3 := Lib.hid (o3.mono (B' := w.heap.size + 1) (by simp; omega))
         have hgw : g < w.heap.size + 1 := by omega
         clear hr3' ht3 o3)))
  all_goals
    go_wp2
    refine bodyPost_ret (v := .tuple #[modelV st p q a2 ll.length c2, v3, .int .i64 ((x4 : Int) + (d5 : Int) * 32 - (d6 : Int) * 40)]) (by simp [results, Tryz.results78, go_sem, r0, r1, r2, r3]) rfl ?_
    have hst6 : Touched w6 ((((w6.setCell ⟨w.heap.size, 0, none⟩ (.int .i64 st)).setCell ⟨w.heap.size, 1, none⟩ (.int .i64 p)).setCell ⟨w.heap.size, 2, none⟩ (.int .i64 q)).setCell ⟨w.heap.size, 3, none⟩ (.slice a2 ll.length c2)) w.heap.size (w.heap.size + 1) := by
      (repeat (first | exact Touched.refl _ _ _ | refine Touched.setIn ?_ (by dsimp only; omega) (by dsimp only; omega) _))
    exact ⟨st, p, q, a2, c2, ll, v3, L3, _, rfl, hst, ((HRW2.out.untouched KT6.out (by omega)).untouched hst6 (Nat.le_refl _)).mono (Nat.le_succ _), hlc, h3, h8, (O6.out.untouched hst6 (fun g' hg' => .inr ((World.ownsRow.lt O6.out g' hg').1))).mono (Nat.le_succ _), hl3, (HR6.out.untouched hst6 hg).mono (by omega), HT6.out.high hst6 (Nat.le_refl _)⟩
/-- What drawing them from bytes comes to (Strong). -/
def DrewMStrong (w : World) (e : Ending) (w' : World) : Prop :=
  ∃ (st : Nat) (p q : Int) (a : Option Addr) (cap : Nat) (ll : List (List Int)) (a3 : Option Addr) (c3 : Nat) (L : List Int) (x : Int), e = .returned (.tuple #[modelV st p q a ll.length cap, .int .i64 x, .slice a3 L.length c3]) ∧ st ≤ 5 ∧ RowsAt w' a ll ∧ ll.length ≤ cap ∧ ll.length ≤ 3 ∧ (∀ i, i < ll.length → (rowI ll i).length ≤ 8) ∧ IntsAt w' a3 L ∧ L.length ≤ 41 ∧ L.length ≤ c3 ∧ Ext w w'
set_option maxHeartbeats 1000000 in
theorem drawStrongStates_c (a : Option Addr) (cap : Nat) (l : List Int) (w : World) (h : BytesAt w a l) (hlen : l.length ≤ 1048576) (hcap : l.length ≤ cap) :
    Calls Tryz.prog 18 #[.slice a l.length cap] w (DrewMStrong w) := by
  go_enter Tryz.func18, Tryz.ntmps18
  go_wp2_with fail
  refine (l20Open_c a cap l _ (h.ext (by (repeat (first | exact Ext.refl _ | assumption | refine Ext.alloc ?_ _ | refine Ext.drewN ?_ _ | refine Ext.drew ?_)))) hlen hcap).mono ?_
  rintro e w1 ⟨g, rfl, hg, hr0, hx0⟩
  have hg1 := hr0.lt
  have hz0 := hx0.size
  simp only [World.size_alloc] at hz0 hg
  have hb := Lib.hid ((box_zero w 37).ext hx0)
  have ht := Lib.hid ((thaw_zero w #[.int .i64 0, .int .i64 0, .int .i64 0, .slice none 0 0] 37).ext hx0)
  have hxw := Ext.trans (show Ext w _ by (repeat (first | exact Ext.refl _ | assumption | refine Ext.alloc ?_ _ | refine Ext.drewN ?_ _ | refine Ext.drew ?_))) hx0
  clear hx0
  go_wp2_with fail
  refine (l20Modelled_c g 0 _ (hr0.ext (by (repeat (first | exact Ext.refl _ | assumption | refine Ext.alloc ?_ _ | refine Ext.drewN ?_ _ | refine Ext.drew ?_)))) (by omega)).mono ?_
  rintro e w2 ⟨st, p, q, a2, c2, ll, v3, L3, x, rfl, hst, hrw, hlc, h3, h8, ho, hl, -, htc⟩
  obtain ⟨a3, c3, rfl, -⟩ := ho.shape
  have HO := Lib.hid (ho.mono (B' := w.heap.size + 1) (by omega))
  have kr := (hb.out.untouched htc (.inl (by omega))).out
  have fr := (ht.out.untouched htc (.inl (by omega))).2
  have zr := (ht.out.untouched htc (.inl (by omega))).1
  have hx2 := Lib.hid (htc.ext hxw (by omega))
  have HRW := Lib.hid (hrw.mono (B' := w.heap.size + 1) (by omega))
  clear hrw htc hxw ho
  go_wp2
  refine bodyPost_ret (v := .tuple #[modelV st p q a2 ll.length c2, .int .i64 x, .slice a3 L3.length c3]) (by simp [results, Tryz.results18, go_sem, kr, zr]) rfl ?_
  have hst2 : Touched w2 ((((w2.setCell ⟨w.heap.size, 0, none⟩ (.int .i64 st)).setCell ⟨w.heap.size, 1, none⟩ (.int .i64 p)).setCell ⟨w.heap.size, 2, none⟩ (.int .i64 q)).setCell ⟨w.heap.size, 3, none⟩ (.slice a2 ll.length c2)) w.heap.size (w.heap.size + 1) := by
    (repeat (first | exact Touched.refl _ _ _ | refine Touched.setIn ?_ (by dsimp only; omega) (by dsimp only; omega) _))
  have hfin := drawn_rows hx2.out HRW.out hst2
  exact ⟨st, p, q, a2, c2, ll, a3, c3, L3, x, rfl, hst, hfin.1.ext (by (repeat (first | exact Ext.refl _ | assumption | refine Ext.alloc ?_ _ | refine Ext.drewN ?_ _ | refine Ext.drew ?_))), hlc, h3, h8, ((HO.out.untouched hst2 (fun g' hg' => .inr ((World.ownsRow.lt HO.out g' hg').1))).ints).ext (by (repeat (first | exact Ext.refl _ | assumption | refine Ext.alloc ?_ _ | refine Ext.drewN ?_ _ | refine Ext.drew ?_))), hl, own_capv HO.out, hfin.2.trans (by (repeat (first | exact Ext.refl _ | assumption | refine Ext.alloc ?_ _ | refine Ext.drewN ?_ _ | refine Ext.drew ?_)))⟩
end Go.Proofs.YtlaamecfknkmlaaGreat
