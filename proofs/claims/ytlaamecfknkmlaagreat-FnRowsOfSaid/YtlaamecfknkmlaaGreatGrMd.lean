/- Merged texts: contracts and plain lemmas (Md). -/
import Derived.Test.YtlaamecfknkmlaaGreatGrX
import Derived.Test.YtlaamecfknkmlaaGreatGrKd
import Derived.Test.YtlaamecfknkmlaaGreatGr1
/- Contracts: the draws of a model, an expression and a set of states. -/
namespace Go.Proofs.YtlaamecfknkmlaaGreat
set_option linter.unusedVariables false
open Go.RowKit Go.Kt

/-- What drawing a model, an expression and a set comes to. -/
def DrewMd (w : World) (g m : Nat) (e : Ending) (w' : World) : Prop :=
  ∃ (st : Nat) (p q : Int) (a : Option Addr) (cap : Nat) (ll : List (List Int)) (v : Value) (L : List Int) (x : Int), e = .returned (.tuple #[modelV st p q a ll.length cap, v, .int .i64 x]) ∧ st ≤ 5 ∧ RowsFrom w' w.heap.size a ll ∧ ll.length ≤ cap ∧ ll.length ≤ 3 ∧ (∀ i, i < ll.length → (rowI ll i).length ≤ 8) ∧
    OwnI w' w.heap.size 3 v L ∧ L.length ≤ 41 ∧ Rd w' g (m + 1700) ∧ Touched w w' g (g + 1)
theorem keepMd {w1 wx w2 : World} {g b c : Nat} {st p q : Int} {v : Value} (h : w1.cell? ⟨b, 0, none⟩ = some (.int .i64 st) ∧ w1.cell? ⟨b, 1, none⟩ = some (.int .i64 p) ∧ w1.cell? ⟨b, 2, none⟩ = some (.int .i64 q) ∧ w1.cell? ⟨b, 3, none⟩ = some v ∧ w1.frozen? ⟨c, 0, none⟩ = false ∧ w1.frozen? ⟨c, 1, none⟩ = false ∧ w1.frozen? ⟨c, 2, none⟩ = false ∧ w1.frozen? ⟨c, 3, none⟩ = false ∧ c < w1.heap.size) (e : Ext w1 wx) (t : Touched wx w2 g (g + 1)) (h1 : g ≠ b) (h2 : g ≠ c) : w2.cell? ⟨b, 0, none⟩ = some (.int .i64 st) ∧ w2.cell? ⟨b, 1, none⟩ = some (.int .i64 p) ∧ w2.cell? ⟨b, 2, none⟩ = some (.int .i64 q) ∧ w2.cell? ⟨b, 3, none⟩ = some v ∧ w2.frozen? ⟨c, 0, none⟩ = false ∧ w2.frozen? ⟨c, 1, none⟩ = false ∧ w2.frozen? ⟨c, 2, none⟩ = false ∧ w2.frozen? ⟨c, 3, none⟩ = false ∧ c < w2.heap.size := by
  obtain ⟨c0, c1, c2, c3, f0, f1, f2, f3, hz⟩ := h
  have hb := BoxM.untouched (BoxM.ext (show BoxM w1 b st p q v from ⟨c0, c1, c2, c3⟩) e) t (by omega)
  have hf : ∀ o, w1.frozen? ⟨c, o, none⟩ = false → w2.frozen? ⟨c, o, none⟩ = false := fun o ho =>
    (World.frozen?_of_block (a := ⟨c, o, none⟩) ((t.block c (Nat.lt_of_lt_of_le hz e.size) (by omega)).trans (e.block c hz))).trans ho
  exact ⟨hb.1, hb.2.1, hb.2.2.1, hb.2.2.2, hf 0 f0, hf 1 f1, hf 2 f2, hf 3 f3, Nat.lt_of_lt_of_le hz (Nat.le_trans e.size t.size)⟩
theorem keepMd0 {w2 : World} {c st : Nat} {p q : Int} {v : Value} (hb : BoxM (w2.alloc (.cells #[.int .i64 st, .int .i64 p, .int .i64 q, v] 37)) w2.heap.size st p q v) (h : Thawed w2 c) : (w2.alloc (.cells #[.int .i64 st, .int .i64 p, .int .i64 q, v] 37)).cell? ⟨w2.heap.size, 0, none⟩ = some (.int .i64 (st : Int)) ∧ (w2.alloc (.cells #[.int .i64 st, .int .i64 p, .int .i64 q, v] 37)).cell? ⟨w2.heap.size, 1, none⟩ = some (.int .i64 p) ∧ (w2.alloc (.cells #[.int .i64 st, .int .i64 p, .int .i64 q, v] 37)).cell? ⟨w2.heap.size, 2, none⟩ = some (.int .i64 q) ∧ (w2.alloc (.cells #[.int .i64 st, .int .i64 p, .int .i64 q, v] 37)).cell? ⟨w2.heap.size, 3, none⟩ = some v ∧ (w2.alloc (.cells #[.int .i64 st, .int .i64 p, .int .i64 q, v] 37)).frozen? ⟨c, 0, none⟩ = false ∧ (w2.alloc (.cells #[.int .i64 st, .int .i64 p, .int .i64 q, v] 37)).frozen? ⟨c, 1, none⟩ = false ∧ (w2.alloc (.cells #[.int .i64 st, .int .i64 p, .int .i64 q, v] 37)).frozen? ⟨c, 2, none⟩ = false ∧ (w2.alloc (.cells #[.int .i64 st, .int .i64 p, .int .i64 q, v] 37)).frozen? ⟨c, 3, none⟩ = false ∧ c < (w2.alloc (.cells #[.int .i64 st, .int .i64 p, .int .i64 q, v] 37)).heap.size := by
  have hx : Ext w2 (w2.alloc (.cells #[.int .i64 st, .int .i64 p, .int .i64 q, v] 37)) := (Ext.refl _).alloc _
  exact ⟨hb.1, hb.2.1, hb.2.2.1, hb.2.2.2, (hx.frozen (p := ⟨c, 0, none⟩) h.1).trans (h.2 0), (hx.frozen (p := ⟨c, 1, none⟩) h.1).trans (h.2 1), (hx.frozen (p := ⟨c, 2, none⟩) h.1).trans (h.2 2), (hx.frozen (p := ⟨c, 3, none⟩) h.1).trans (h.2 3), Nat.lt_of_lt_of_le h.1 hx.size⟩
set_option maxRecDepth 100000 in
set_option maxHeartbeats 1000000 in
theorem l20Modelled_c (g m : Nat) (w : World) (h : Rd w g m) (hm : m ≤ 10000) :
    Calls Tryz.prog 78 #[.pointer (some ⟨g, 0, none⟩)] w (DrewMd w g m) := by
  have hg := h.lt
  have HH := Lib.hid h
  clear h
  go_enter Tryz.func78, Tryz.ntmps78
  go_wp2_with fail
  refine (l20Model_c g m 12 _ (HH.out.ext (by (repeat (first | exact Ext.refl _ | assumption | refine Ext.alloc ?_ _ | refine Ext.drewN ?_ _ | refine Ext.drew ?_)))) (by omega)).mono ?_
  rintro e w2 ⟨st, p, q, a2, c2, ll, rfl, hst, hrw, hlc, h3, h8, hr2, htc⟩
  have hb := Lib.hid (box_zero w 37)
  have ht := Lib.hid (thaw_zero w #[.int .i64 0, .int .i64 0, .int .i64 0, .slice none 0 0] 37)
  have hb2 := Lib.hid (hb.out.untouched htc (.inr (by omega)))
  have ht2 := Lib.hid (ht.out.untouched htc (.inr (by omega)))
  have zz2 := htc.size
  simp only [World.size_alloc] at zz2
  have HT2 := Lib.hid (Touched.trans (Touched.of_ext (show Ext w _ by (repeat (first | exact Ext.refl _ | assumption | refine Ext.alloc ?_ _ | refine Ext.drewN ?_ _ | refine Ext.drew ?_)))) htc)
  have HR2 := Lib.hid hr2
  have HRW2 := Lib.hid (hrw.mono (B' := w.heap.size + 1) (by simp))
  clear htc hr2 hrw hb ht
  have hmx : (if (st : Int) < 1 then (1 : Int) else (st : Int)) = ((max st 1 : Nat) : Int) := by split <;> omega
  obtain ⟨mx, hmxe⟩ : ∃ mx, mx = max st 1 := ⟨_, rfl⟩
  have hmx5 : mx ≤ 5 := by omega
  rw [← hmxe] at hmx
  have hmn : (if (5 : Int) < (mx : Int) then (5 : Int) else (mx : Int)) = (mx : Int) := if_neg (by omega)
  have hmn2 : (if (mx : Int) < 5 then (mx : Int) else (5 : Int)) = (mx : Int) := by split <;> omega
  have hpc := pow2_cast mx
  have hp32 : pow2 mx ≤ 32 := pow2_le mx 5 hmx5
  have hwp : IntKind.i64.wrap ((pow2 mx : Nat) : Int) = ((pow2 mx : Nat) : Int) := IntWalk.i64_in _ (by omega)
  clear hmxe
  go_wp2
  have HBM := Lib.hid (box_made w2 37 st p q (.slice a2 ll.length c2))
  have zz3 : w.heap.size < w2.heap.size := zz2
  have zz4 : w.heap.size < w2.heap.size + 1 := by omega
  have hk2 := keepMd0 HBM.out ht2.out
  have hne1 : ¬ w.heap.size = w2.heap.size := by omega
  have hne2 : ¬ w2.heap.size = w.heap.size := by omega
  go_region_held3 (fun w' => w'.cell? ⟨w2.heap.size, 0, none⟩ = some (.int .i64 st) ∧ w'.cell? ⟨w2.heap.size, 1, none⟩ = some (.int .i64 p) ∧ w'.cell? ⟨w2.heap.size, 2, none⟩ = some (.int .i64 q) ∧ w'.cell? ⟨w2.heap.size, 3, none⟩ = some (.slice a2 ll.length c2) ∧ w'.frozen? ⟨w.heap.size, 0, none⟩ = false ∧ w'.frozen? ⟨w.heap.size, 1, none⟩ = false ∧ w'.frozen? ⟨w.heap.size, 2, none⟩ = false ∧ w'.frozen? ⟨w.heap.size, 3, none⟩ = false ∧ w.heap.size < w'.heap.size)
    (first
      | go_keep
      | exact hk6
      | exact hk5
      | exact hk4
      | exact hk3
      | exact hk2)
    ((first
      | (go_at_call 54; have _t := hk5; refine (pick_c g _ _ _ (hr5.out.ext (by (repeat (first | exact Ext.refl _ | assumption | refine Ext.alloc ?_ _ | refine Ext.drewN ?_ _ | refine Ext.drew ?_)))) (by omega)).mono ?_; rintro e w6 ⟨x6, rfl, hx6, hr6, ht6⟩
         have hk6 := keepMd hk5 (by (repeat (first | exact Ext.refl _ | assumption | refine Ext.alloc ?_ _ | refine Ext.drewN ?_ _ | refine Ext.drew ?_))) ht6 (by omega) (by omega)
         obtain ⟨d6, hd6, hyd6⟩ : ∃ d : Nat, d ≤ 1 ∧ ((x6 : Int)).tdiv 39 = (d : Int) := ⟨x6 / 39, by omega, rfl⟩
         have hbr6 := BoxM.untouched (BoxM.ext hbr5.out (by (repeat (first | exact Ext.refl _ | assumption | refine Ext.alloc ?_ _ | refine Ext.drewN ?_ _ | refine Ext.drew ?_)))) ht6 (.inr (by omega))
         obtain ⟨r0, r1, r2, r3⟩ := hbr6.out
         have O6 := Lib.hid (OwnI.drawn (O5.out.ext (by (repeat (first | exact Ext.refl _ | assumption | refine Ext.alloc ?_ _ | refine Ext.drewN ?_ _ | refine Ext.drew ?_)))) ht6 hgw)
         have HR6 := Lib.hid hr6
         have KT6 : Hid (Touched w2 w6 g (g + 1)) := Touched.trans (KT5.out) (Touched.trans (Touched.of_ext (by (repeat (first | exact Ext.refl _ | assumption | refine Ext.alloc ?_ _ | refine Ext.drewN ?_ _ | refine Ext.drew ?_)))) ht6)
         have HT6 := Lib.hid (HT5.out.trans (Touched.trans (Touched.of_ext (by (repeat (first | exact Ext.refl _ | assumption | refine Ext.alloc ?_ _ | refine Ext.drewN ?_ _ | refine Ext.drew ?_)))) ht6))
         have hx32 : (x4 : Int) ≤ 32 := by omega
         have hd5' : (d5 : Int) ≤ 1 := by omega
         have hd6' : (d6 : Int) ≤ 1 := by omega
         have hq1 : IntKind.i64.wrap ((d5 : Int) * 32) = (d5 : Int) * 32 := IntWalk.i64_in _ (by omega)
         have hq2 : IntKind.i64.wrap ((d6 : Int) * 40) = (d6 : Int) * 40 := IntWalk.i64_in _ (by omega)
         have hq3 : IntKind.i64.wrap ((x4 : Int) + (d5 : Int) * 32) = (x4 : Int) + (d5 : Int) * 32 := IntWalk.i64_in _ (by omega)
         have hq4 : IntKind.i64.wrap ((x4 : Int) + (d5 : Int) * 32 - (d6 : Int) * 40) = (x4 : Int) + (d5 : Int) * 32 - (d6 : Int) * 40 := IntWalk.i64_in _ (by omega)
         have hq5 : IntKind.i64.wrap (d5 : Int) = (d5 : Int) := IntWalk.i64_in _ (by omega)
         have hq6 : IntKind.i64.wrap (d6 : Int) = (d6 : Int) := IntWalk.i64_in _ (by omega)
         clear hr6 ht6)
      | (go_at_call 54; have _t := hk4; refine (pick_c g _ _ _ (hr4.out.ext (by (repeat (first | exact Ext.refl _ | assumption | refine Ext.alloc ?_ _ | refine Ext.drewN ?_ _ | refine Ext.drew ?_)))) (by omega)).mono ?_; rintro e w5 ⟨x5, rfl, hx5, hr5', ht5⟩
         have hk5 := keepMd hk4 (by (repeat (first | exact Ext.refl _ | assumption | refine Ext.alloc ?_ _ | refine Ext.drewN ?_ _ | refine Ext.drew ?_))) ht5 (by omega) (by omega)
         obtain ⟨d5, hd5, hyd5⟩ : ∃ d : Nat, d ≤ 1 ∧ ((x5 : Int)).tdiv 39 = (d : Int) := ⟨x5 / 39, by omega, rfl⟩
         have hbr5 := Lib.hid (BoxM.untouched (BoxM.ext hbr4.out (by (repeat (first | exact Ext.refl _ | assumption | refine Ext.alloc ?_ _ | refine Ext.drewN ?_ _ | refine Ext.drew ?_)))) ht5 (.inr (by omega)))
         have O5 := Lib.hid (OwnI.drawn (O4.out.ext (by (repeat (first | exact Ext.refl _ | assumption | refine Ext.alloc ?_ _ | refine Ext.drewN ?_ _ | refine Ext.drew ?_)))) ht5 hgw)
         have hr5 := Lib.hid hr5'
         have KT5 : Hid (Touched w2 w5 g (g + 1)) := Touched.trans (KT4.out) (Touched.trans (Touched.of_ext (by (repeat (first | exact Ext.refl _ | assumption | refine Ext.alloc ?_ _ | refine Ext.drewN ?_ _ | refine Ext.drew ?_)))) ht5)
         have HT5 := Lib.hid (HT4.out.trans (Touched.trans (Touched.of_ext (by (repeat (first | exact Ext.refl _ | assumption | refine Ext.alloc ?_ _ | refine Ext.drewN ?_ _ | refine Ext.drew ?_)))) ht5))
         clear hr5' ht5)
      | (go_at_call 54; have _t := hk3; refine (pick_c g _ _ _ (hr3.out.ext (by (repeat (first | exact Ext.refl _ | assumption | refine Ext.alloc ?_ _ | refine Ext.drewN ?_ _ | refine Ext.drew ?_)))) (by omega)).mono ?_; rintro e w4 ⟨x4, rfl, hx4, hr4', ht4⟩
         have hk4 := keepMd hk3 (by (repeat (first | exact Ext.refl _ | assumption | refine Ext.alloc ?_ _ | refine Ext.drewN ?_ _ | refine Ext.drew ?_))) ht4 (by omega) (by omega)
         have hbr4 := Lib.hid (BoxM.untouched (BoxM.ext hbr3.out (by (repeat (first | exact Ext.refl _ | assumption | refine Ext.alloc ?_ _ | refine Ext.drewN ?_ _ | refine Ext.drew ?_)))) ht4 (.inr (by omega)))
         have O4 := Lib.hid (OwnI.drawn (O3.out.ext (by (repeat (first | exact Ext.refl _ | assumption | refine Ext.alloc ?_ _ | refine Ext.drewN ?_ _ | refine Ext.drew ?_)))) ht4 hgw)
         have hr4 := Lib.hid hr4'
         have KT4 : Hid (Touched w2 w4 g (g + 1)) := Touched.trans (KT3.out) (Touched.trans (Touched.of_ext (by (repeat (first | exact Ext.refl _ | assumption | refine Ext.alloc ?_ _ | refine Ext.drewN ?_ _ | refine Ext.drew ?_)))) ht4)
         have HT4 := Lib.hid (HT3.out.trans (Touched.trans (Touched.of_ext (by (repeat (first | exact Ext.refl _ | assumption | refine Ext.alloc ?_ _ | refine Ext.drewN ?_ _ | refine Ext.drew ?_)))) ht4))
         clear hr4' ht4)
      | (go_at_call 137; refine (l20Prog_c g _ 6 12 _ (HR2.out.ext (by (repeat (first | exact Ext.refl _ | assumption | refine Ext.alloc ?_ _ | refine Ext.drewN ?_ _ | refine Ext.drew ?_)))) (by decide) (by omega)).mono ?_; rintro e w3 ⟨v3, L3, rfl, o3, hl3, hr3', ht3⟩
         have hk3 := keepMd hk2 (by (repeat (first | exact Ext.refl _ | assumption | refine Ext.alloc ?_ _ | refine Ext.drewN ?_ _ | refine Ext.drew ?_))) ht3 (by omega) (by omega)
         have hbr3 := Lib.hid (BoxM.untouched (BoxM.ext hb2.out (by (repeat (first | exact Ext.refl _ | assumption | refine Ext.alloc ?_ _ | refine Ext.drewN ?_ _ | refine Ext.drew ?_)))) ht3 (.inr (by omega)))
         have hr3 := Lib.hid hr3'
         have KT3 : Hid (Touched w2 w3 g (g + 1)) := Touched.trans (Touched.of_ext (Ext.refl w2)) (Touched.trans (Touched.of_ext (by (repeat (first | exact Ext.refl _ | assumption | refine Ext.alloc ?_ _ | refine Ext.drewN ?_ _ | refine Ext.drew ?_)))) ht3)
         have HT3 := Lib.hid (HT2.out.trans (Touched.trans (Touched.of_ext (by (repeat (first | exact Ext.refl _ | assumption | refine Ext.alloc ?_ _ | refine Ext.drewN ?_ _ | refine Ext.drew ?_)))) ht3))
         have O3 := Lib.hid (o3.mono (B' := w.heap.size + 1) (by simp; omega))
         have hgw : g < w.heap.size + 1 := by omega
         clear hr3' ht3 o3)))
  all_goals
    go_wp2
    refine bodyPost_ret (v := .tuple #[modelV st p q a2 ll.length c2, v3, .int .i64 ((x4 : Int) + (d5 : Int) * 32 - (d6 : Int) * 40)]) (by simp [results, Tryz.results78, go_sem, r0, r1, r2, r3]) rfl ?_
    have hst6 : Touched w6 ((((w6.setCell ⟨w.heap.size, 0, none⟩ (.int .i64 st)).setCell ⟨w.heap.size, 1, none⟩ (.int .i64 p)).setCell ⟨w.heap.size, 2, none⟩ (.int .i64 q)).setCell ⟨w.heap.size, 3, none⟩ (.slice a2 ll.length c2)) w.heap.size (w.heap.size + 1) := by
      (repeat (first | exact Touched.refl _ _ _ | refine Touched.setIn ?_ (by dsimp only; omega) (by dsimp only; omega) _))
    exact ⟨st, p, q, a2, c2, ll, v3, L3, _, rfl, hst, ((HRW2.out.untouched KT6.out (by omega)).untouched hst6 (Nat.le_refl _)).mono (Nat.le_succ _), hlc, h3, h8, (O6.out.untouched hst6 (fun g' hg' => .inr ((World.ownsRow.lt O6.out g' hg').1))).mono (Nat.le_succ _), hl3, (HR6.out.untouched hst6 hg).mono (by omega), HT6.out.high hst6 (Nat.le_refl _)⟩
/-- What drawing them from bytes comes to (Weak). -/
def DrewMWeak (w : World) (e : Ending) (w' : World) : Prop :=
  ∃ (st : Nat) (p q : Int) (a : Option Addr) (cap : Nat) (ll : List (List Int)) (a3 : Option Addr) (c3 : Nat) (L : List Int) (x : Int), e = .returned (.tuple #[modelV st p q a ll.length cap, .slice a3 L.length c3, .int .i64 x]) ∧ st ≤ 5 ∧ RowsAt w' a ll ∧ ll.length ≤ cap ∧ ll.length ≤ 3 ∧ (∀ i, i < ll.length → (rowI ll i).length ≤ 8) ∧ IntsAt w' a3 L ∧ L.length ≤ 41 ∧ L.length ≤ c3 ∧ Ext w w'
/-- What drawing them from bytes comes to (Strong). -/
def DrewMStrong (w : World) (e : Ending) (w' : World) : Prop :=
  ∃ (st : Nat) (p q : Int) (a : Option Addr) (cap : Nat) (ll : List (List Int)) (a3 : Option Addr) (c3 : Nat) (L : List Int) (x : Int), e = .returned (.tuple #[modelV st p q a ll.length cap, .int .i64 x, .slice a3 L.length c3]) ∧ st ≤ 5 ∧ RowsAt w' a ll ∧ ll.length ≤ cap ∧ ll.length ≤ 3 ∧ (∀ i, i < ll.length → (rowI ll i).length ≤ 8) ∧ IntsAt w' a3 L ∧ L.length ≤ 41 ∧ L.length ≤ c3 ∧ Ext w w'
/-- What drawing them from bytes comes to (Rows). -/
def DrewMRows (w : World) (e : Ending) (w' : World) : Prop :=
  ∃ (st : Nat) (p q : Int) (a : Option Addr) (cap : Nat) (ll : List (List Int)) (a3 : Option Addr) (c3 : Nat) (L : List Int), e = .returned (.tuple #[modelV st p q a ll.length cap, .slice a3 L.length c3]) ∧ st ≤ 5 ∧ RowsAt w' a ll ∧ ll.length ≤ cap ∧ ll.length ≤ 3 ∧ (∀ i, i < ll.length → (rowI ll i).length ≤ 8) ∧ IntsAt w' a3 L ∧ L.length ≤ 41 ∧ L.length ≤ c3 ∧ Ext w w'
set_option maxHeartbeats 1000000 in
theorem drawStrongStates_c (a : Option Addr) (cap : Nat) (l : List Int) (w : World) (h : BytesAt w a l) (hlen : l.length ≤ 1048576) (hcap : l.length ≤ cap) :
    Calls Tryz.prog 18 #[.slice a l.length cap] w (DrewMStrong w) := by
  go_enter Tryz.func18, Tryz.ntmps18
  go_wp2_with fail
  refine (l20Open_c a cap l _ (h.ext (by (repeat (first | exact Ext.refl _ | assumption | refine Ext.alloc ?_ _ | refine Ext.drewN ?_ _ | refine Ext.drew ?_)))) hlen hcap).mono ?_
  rintro e w1 ⟨g, rfl, hg, hr0, hx0⟩
  have hg1 := hr0.lt
  have hz0 := hx0.size
  simp only [World.size_alloc] at hz0 hg
  have hb := Lib.hid ((box_zero w 37).ext hx0)
  have ht := Lib.hid ((thaw_zero w #[.int .i64 0, .int .i64 0, .int .i64 0, .slice none 0 0] 37).ext hx0)
  have hxw := Ext.trans (show Ext w _ by (repeat (first | exact Ext.refl _ | assumption | refine Ext.alloc ?_ _ | refine Ext.drewN ?_ _ | refine Ext.drew ?_))) hx0
  clear hx0
  go_wp2_with fail
  refine (l20Modelled_c g 0 _ (hr0.ext (by (repeat (first | exact Ext.refl _ | assumption | refine Ext.alloc ?_ _ | refine Ext.drewN ?_ _ | refine Ext.drew ?_)))) (by omega)).mono ?_
  rintro e w2 ⟨st, p, q, a2, c2, ll, v3, L3, x, rfl, hst, hrw, hlc, h3, h8, ho, hl, -, htc⟩
  obtain ⟨a3, c3, rfl, -⟩ := ho.shape
  have HO := Lib.hid (ho.mono (B' := w.heap.size + 1) (by omega))
  have kr := (hb.out.untouched htc (.inl (by omega))).out
  have fr := (ht.out.untouched htc (.inl (by omega))).2
  have zr := (ht.out.untouched htc (.inl (by omega))).1
  have hx2 := Lib.hid (htc.ext hxw (by omega))
  have HRW := Lib.hid (hrw.mono (B' := w.heap.size + 1) (by omega))
  clear hrw htc hxw ho
  go_wp2
  refine bodyPost_ret (v := .tuple #[modelV st p q a2 ll.length c2, .int .i64 x, .slice a3 L3.length c3]) (by simp [results, Tryz.results18, go_sem, kr, zr]) rfl ?_
  have hst2 : Touched w2 ((((w2.setCell ⟨w.heap.size, 0, none⟩ (.int .i64 st)).setCell ⟨w.heap.size, 1, none⟩ (.int .i64 p)).setCell ⟨w.heap.size, 2, none⟩ (.int .i64 q)).setCell ⟨w.heap.size, 3, none⟩ (.slice a2 ll.length c2)) w.heap.size (w.heap.size + 1) := by
    (repeat (first | exact Touched.refl _ _ _ | refine Touched.setIn ?_ (by dsimp only; omega) (by dsimp only; omega) _))
  have hfin := drawn_rows hx2.out HRW.out hst2
  exact ⟨st, p, q, a2, c2, ll, a3, c3, L3, x, rfl, hst, hfin.1.ext (by (repeat (first | exact Ext.refl _ | assumption | refine Ext.alloc ?_ _ | refine Ext.drewN ?_ _ | refine Ext.drew ?_))), hlc, h3, h8, ((HO.out.untouched hst2 (fun g' hg' => .inr ((World.ownsRow.lt HO.out g' hg').1))).ints).ext (by (repeat (first | exact Ext.refl _ | assumption | refine Ext.alloc ?_ _ | refine Ext.drewN ?_ _ | refine Ext.drew ?_))), hl, own_capv HO.out, hfin.2.trans (by (repeat (first | exact Ext.refl _ | assumption | refine Ext.alloc ?_ _ | refine Ext.drewN ?_ _ | refine Ext.drew ?_)))⟩
set_option maxHeartbeats 1000000 in
theorem drawRowsOf_c (a : Option Addr) (cap : Nat) (l : List Int) (w : World) (h : BytesAt w a l) (hlen : l.length ≤ 1048576) (hcap : l.length ≤ cap) :
    Calls Tryz.prog 45 #[.slice a l.length cap] w (DrewMRows w) := by
  go_enter Tryz.func45, Tryz.ntmps45
  go_wp2_with fail
  refine (l20Open_c a cap l _ (h.ext (by (repeat (first | exact Ext.refl _ | assumption | refine Ext.alloc ?_ _ | refine Ext.drewN ?_ _ | refine Ext.drew ?_)))) hlen hcap).mono ?_
  rintro e w1 ⟨g, rfl, hg, hr0, hx0⟩
  have hg1 := hr0.lt
  have hz0 := hx0.size
  simp only [World.size_alloc] at hz0 hg
  have hb := Lib.hid ((box_zero w 37).ext hx0)
  have ht := Lib.hid ((thaw_zero w #[.int .i64 0, .int .i64 0, .int .i64 0, .slice none 0 0] 37).ext hx0)
  have hxw := Ext.trans (show Ext w _ by (repeat (first | exact Ext.refl _ | assumption | refine Ext.alloc ?_ _ | refine Ext.drewN ?_ _ | refine Ext.drew ?_))) hx0
  clear hx0
  go_wp2_with fail
  refine (l20Modelled_c g 0 _ (hr0.ext (by (repeat (first | exact Ext.refl _ | assumption | refine Ext.alloc ?_ _ | refine Ext.drewN ?_ _ | refine Ext.drew ?_)))) (by omega)).mono ?_
  rintro e w2 ⟨st, p, q, a2, c2, ll, v3, L3, x, rfl, hst, hrw, hlc, h3, h8, ho, hl, -, htc⟩
  obtain ⟨a3, c3, rfl, -⟩ := ho.shape
  have HO := Lib.hid (ho.mono (B' := w.heap.size + 1) (by omega))
  have kr := (hb.out.untouched htc (.inl (by omega))).out
  have fr := (ht.out.untouched htc (.inl (by omega))).2
  have zr := (ht.out.untouched htc (.inl (by omega))).1
  have hx2 := Lib.hid (htc.ext hxw (by omega))
  have HRW := Lib.hid (hrw.mono (B' := w.heap.size + 1) (by omega))
  clear hrw htc hxw ho
  go_wp2
  refine bodyPost_ret (v := .tuple #[modelV st p q a2 ll.length c2, .slice a3 L3.length c3]) (by simp [results, Tryz.results45, go_sem, kr, zr]) rfl ?_
  have hst2 : Touched w2 ((((w2.setCell ⟨w.heap.size, 0, none⟩ (.int .i64 st)).setCell ⟨w.heap.size, 1, none⟩ (.int .i64 p)).setCell ⟨w.heap.size, 2, none⟩ (.int .i64 q)).setCell ⟨w.heap.size, 3, none⟩ (.slice a2 ll.length c2)) w.heap.size (w.heap.size + 1) := by
    (repeat (first | exact Touched.refl _ _ _ | refine Touched.setIn ?_ (by dsimp only; omega) (by dsimp only; omega) _))
  have hfin := drawn_rows hx2.out HRW.out hst2
  exact ⟨st, p, q, a2, c2, ll, a3, c3, L3, rfl, hst, hfin.1.ext (by (repeat (first | exact Ext.refl _ | assumption | refine Ext.alloc ?_ _ | refine Ext.drewN ?_ _ | refine Ext.drew ?_))), hlc, h3, h8, ((HO.out.untouched hst2 (fun g' hg' => .inr ((World.ownsRow.lt HO.out g' hg').1))).ints).ext (by (repeat (first | exact Ext.refl _ | assumption | refine Ext.alloc ?_ _ | refine Ext.drewN ?_ _ | refine Ext.drew ?_))), hl, own_capv HO.out, hfin.2.trans (by (repeat (first | exact Ext.refl _ | assumption | refine Ext.alloc ?_ _ | refine Ext.drewN ?_ _ | refine Ext.drew ?_)))⟩
end Go.Proofs.YtlaamecfknkmlaaGreat
