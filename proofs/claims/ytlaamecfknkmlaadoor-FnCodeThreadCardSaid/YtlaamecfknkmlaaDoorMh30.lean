/- Merged texts: contracts and plain lemmas (Wa). -/
import Derived.Test.YtlaamecfknkmlaaDoorMh15
import Derived.Test.YtlaamecfknkmlaaDoorMh29
import Derived.Deep.DeepCutAuto
/- Contracts: programs drawn. -/
namespace Go.Proofs.YtlaamecfknkmlaaDoor
set_option linter.unusedVariables false
open Go.RowKit Go.Kt

/-- How many picks drawing a program takes at most. -/
def kw : Nat → Nat
  | 0 => 30
  | d + 1 => 2 * kw d + 60
/-- The words are those of a tree. -/
def PvT (L : List Int) : Prop := ∃ t : Pt, t.Good ∧ t.words = L
theorem PvT.one {x : Int} (h : x = 15 ∨ (16 ≤ x ∧ x ≤ 18)) : PvT [x] := ⟨.one x, h, rfl⟩
theorem PvT.loop {L : List Int} {t : Int} (h : PvT L) (h0 : 0 ≤ t) (h1 : t ≤ 15) : PvT (L ++ [200 + t]) := by
  obtain ⟨p, hg, rfl⟩ := h
  exact ⟨.loop t p, ⟨⟨h0, h1⟩, hg⟩, rfl⟩
theorem PvT.ifs {L M : List Int} {t : Int} (h : PvT L) (k : PvT M) (h0 : 0 ≤ t) (h1 : t ≤ 15) : PvT (L ++ M ++ [100 + t]) := by
  obtain ⟨p, hg, rfl⟩ := h
  obtain ⟨q, hq, rfl⟩ := k
  exact ⟨.ifs t p q, ⟨⟨h0, h1⟩, hg, hq⟩, rfl⟩
theorem PvT.seq {L M : List Int} (h : PvT L) (k : PvT M) : PvT (L ++ M ++ [30]) := by
  obtain ⟨p, hg, rfl⟩ := h
  obtain ⟨q, hq, rfl⟩ := k
  exact ⟨.seq p q, ⟨hg, hq⟩, rfl⟩
/-- What drawing a program comes to. -/
def DrewW (w : World) (g m : Nat) (n : Int) (e : Ending) (w' : World) : Prop := ∃ v L, e = .returned v ∧ OwnI w' w.heap.size 3 v L ∧ L.length ≤ 17 ∧ (n = 0 → L.length ≤ 16 ∧ PvT L) ∧ Rd w' g m ∧ Touched w w' g (g + 1)
theorem WordSt.done {w wr : World} {g m m' : Nat} {v : Value} {L : List Int} {n : Int} (h : WordSt w wr g m v L) (hL : L.length ≤ 17) (hp : n = 0 → L.length ≤ 16 ∧ PvT L) (hm : m ≤ m') : DrewW w g m' n (.returned v) wr := ⟨v, L, rfl, h.own, hL, hp, h.rd.mono hm, h.tch⟩
set_option maxRecDepth 100000 in
set_option maxHeartbeats 4000000 in
theorem l20Words_step (d g m b : Nat) (n : Int) (w : World) (h : Rd w g m) (hb : 2 * b + 30 ≤ kw d) (hm : m + kw d ≤ 10000) (hd : d ≤ 10)
    (ih : 0 < d → 12 ≤ b ∧ ∀ (m : Nat) (w : World), Rd w g m → m + (b - 12) ≤ 10000 → Calls Tryd.prog 62 #[.pointer (some ⟨g, 0, none⟩), .int .i64 ((d : Int) - 1), .int .i64 0] w (DrewW w g (m + (b - 12)) 0)) :
    Calls Tryd.prog 62 #[.pointer (some ⟨g, 0, none⟩), .int .i64 (d : Int), .int .i64 n] w (DrewW w g (m + kw d) n) := by
  have hg := h.lt
  have HH := Lib.hid h
  have IH := Lib.hid ih
  clear h ih
  go_enter Tryd.func62, Tryd.ntmps62
  go_wp2_with fail
  refine (pick_c g m 3 _ (HH.out.ext (by (repeat (first | exact Ext.refl _ | assumption | refine Ext.alloc ?_ _ | refine Ext.drewN ?_ _ | refine Ext.drew ?_)))) (by omega)).mono ?_
  rintro e w1 ⟨x1, rfl, hx1, hr1, ht1⟩
  have htc1 := Lib.hid (Touched.trans (Touched.of_ext (show Ext w _ by (repeat (first | exact Ext.refl _ | assumption | refine Ext.alloc ?_ _ | refine Ext.drewN ?_ _ | refine Ext.drew ?_)))) ht1)
  have HR1 := Lib.hid hr1
  have hz1 := htc1.out.size
  have hw1 : IntKind.i64.wrap (16 + (x1 : Int)) = 16 + (x1 : Int) := IntWalk.i64_in _ (by omega)
  clear hr1 ht1
  go_wp2_with fail
  refine (pick_c g _ 9 _ (HR1.out.ext (by (repeat (first | exact Ext.refl _ | assumption | refine Ext.alloc ?_ _ | refine Ext.drewN ?_ _ | refine Ext.drew ?_)))) (by omega)).mono ?_
  rintro e w2 ⟨x2, rfl, hx2, hr2, ht2⟩
  have hz2 := ht2.size
  simp only [World.size_alloc] at hz2
  have hst := Lib.hid (show WordSt w w2 g (m + 2) (.slice (some ⟨w1.heap.size, 0, none⟩) 1 1) [16 + (x1 : Int)] from ⟨hg, OwnI.drawn (OwnI.lit1 _ _ _ _ hz1) ht2 hg, hr2, htc1.out.trans (Touched.trans (Touched.of_ext (by (repeat (first | exact Ext.refl _ | assumption | refine Ext.alloc ?_ _ | refine Ext.drewN ?_ _ | refine Ext.drew ?_)))) ht2)⟩)
  clear hr2 ht2 HR1
  go_upto_if 15 with fail
  go_cut [7] (fun v wx => Hid (∃ L, L.length ≤ 1 ∧ PvT L ∧ WordSt w wx g (m + 2) v L))
  case first =>
    by_cases hx0 : x2 = 0
    · subst hx0
      go_wp2
      go_meet
      case rel => exact Lib.hid ⟨[15], by simp, PvT.one (.inl rfl), hst.out.other (by (repeat (first | exact Ext.refl _ | assumption | refine Ext.alloc ?_ _ | refine Ext.drewN ?_ _ | refine Ext.drew ?_))) (OwnI.lit1 _ _ _ _ (by first | omega | (simp; omega)))⟩
    · have hxb : ((x2 : Int) == 0) = false := by simp; omega
      go_wp2
      go_meet
      case rel => exact Lib.hid ⟨_, by simp, PvT.one (.inr (by omega)), hst.out.ext (by (repeat (first | exact Ext.refl _ | assumption | refine Ext.alloc ?_ _ | refine Ext.drewN ?_ _ | refine Ext.drew ?_)))⟩
  case rest =>
    obtain ⟨L0, hL0, hp0, hs0⟩ := hcut.out
    have HP0 := Lib.hid hp0
    have HS0 := Lib.hid hs0
    clear hcut hst htc1 hw1 hz1 hz2 hx1 hs0 hp0
    go_wp2_with fail
    refine (pick_c g _ 3 _ (HS0.out.rd.ext (by (repeat (first | exact Ext.refl _ | assumption | refine Ext.alloc ?_ _ | refine Ext.drewN ?_ _ | refine Ext.drew ?_)))) (by omega)).mono ?_
    rintro e w3 ⟨x3, rfl, hx3, hr3, ht3⟩
    have HS3 := Lib.hid (HS0.out.drawn (by (repeat (first | exact Ext.refl _ | assumption | refine Ext.alloc ?_ _ | refine Ext.drewN ?_ _ | refine Ext.drew ?_))) ht3 hr3)
    clear HS0 hr3 ht3
    go_wp2
    go_loopw [7, 8] (fun v k wr => Hid (∃ (j : Nat) (L : List Int), j ≤ 2 ∧ k = .int .i64 j ∧ L.length + 18 * j ≤ 37 ∧ PvT L ∧ ∃ i, i + j ≤ 2 ∧ WordSt w wr g (m + 3 + i * b) v L)) (fun _ k _ => (intOf k).toNat)
    case atStart => exact Lib.hid ⟨x3, L0, by omega, rfl, by omega, HP0.out, 0, by omega, HS3.out.mono (by omega)⟩
    case round =>
      obtain ⟨j, L, hj, rfl, hL, hpL, i, hij, hs⟩ := hrel.out
      have HP := Lib.hid hpL
      clear hrel HS3 HP0 hpL
      obtain ⟨av, cv, rfl⟩ := hs.shape
      have HS := Lib.hid hs
      have hib : i * b ≤ 2 * b := Nat.mul_le_mul_right b (by omega)
      clear hs
      by_cases hc : 0 < j ∧ 0 < d
      · obtain ⟨hj0, hd0⟩ := hc
        obtain ⟨hb12, hcall⟩ := IH.out hd0
        have HC := Lib.hid hcall
        have hib2 : Hid ((i + 1) * b = i * b + b) := by unfold Hid; rw [Nat.add_mul, Nat.one_mul]
        have hi1 : i ≤ 1 := by omega
        have hib1 : i * b ≤ b := by have := Nat.mul_le_mul_right b hi1; omega
        obtain ⟨ib, hibe⟩ : ∃ ib, ib = i * b := ⟨_, rfl⟩
        rw [← hibe] at HS hib hib1 hib2
        clear hibe hcall
        have hwj : IntKind.i64.wrap ((j : Int) - 1) = (j : Int) - 1 := IntWalk.i64_in _ (by omega)
        have hwd : IntKind.i64.wrap ((d : Int) - 1) = (d : Int) - 1 := IntWalk.i64_in _ (by omega)
        go_wp2_with fail
        refine (pick_c g _ 5 _ (HS.out.rd.ext (by (repeat (first | exact Ext.refl _ | assumption | refine Ext.alloc ?_ _ | refine Ext.drewN ?_ _ | refine Ext.drew ?_)))) (by omega)).mono ?_
        rintro e w4 ⟨y, rfl, hy, hr4, ht4⟩
        have HS4 := Lib.hid (HS.out.drawn (by (repeat (first | exact Ext.refl _ | assumption | refine Ext.alloc ?_ _ | refine Ext.drewN ?_ _ | refine Ext.drew ?_))) ht4 hr4)
        clear HS hr4 ht4
        have hmi : Hid (∀ (w' : World) (v' : Value) (M : List Int) (q : Nat), q ≤ b → M.length ≤ L.length + 18 → PvT M → WordSt w w' g (m + 3 + ib + q) v' M → ∃ (j' : Nat) (L' : List Int), j' ≤ 2 ∧ Value.int .i64 ((j : Int) - 1) = .int .i64 j' ∧ L'.length + 18 * j' ≤ 37 ∧ PvT L' ∧ ∃ i, i + j' ≤ 2 ∧ WordSt w w' g (m + 3 + i * b) v' L') := fun w' v' M q hq hM hpM hS =>
          ⟨j - 1, M, by omega, by congr 1; omega, by omega, hpM, i + 1, by omega, hS.mono (by rw [hib2.out]; omega)⟩
        rcases (show y = 0 ∨ y = 1 ∨ y = 2 ∨ 3 ≤ y by omega) with rfl | rfl | rfl | hy3
        · go_wp2_with fail
          refine (l20Test0_c g _ _ (HS4.out.rd.ext (by (repeat (first | exact Ext.refl _ | assumption | refine Ext.alloc ?_ _ | refine Ext.drewN ?_ _ | refine Ext.drew ?_)))) (by omega)).mono ?_
          rintro e w5 ⟨t, rfl, ⟨ht0, ht15⟩, hr5, ht5⟩
          have HS5 := Lib.hid (HS4.out.drawn (by (repeat (first | exact Ext.refl _ | assumption | refine Ext.alloc ?_ _ | refine Ext.drewN ?_ _ | refine Ext.drew ?_))) ht5 hr5)
          have hz5 := HS5.out.tch.size
          clear HS4 hr5 ht5
          go_wp2_with (at_builtin; refine any_append_ints (by rfl) _ _ _ rfl (w.heap.size) 3 Tryd.underlying29 infoInt _ (_) rfl (HS5.out.own.ext (by (repeat (first | exact Ext.refl _ | assumption | refine Ext.alloc ?_ _ | refine Ext.drewN ?_ _ | refine Ext.drew ?_)))) _ _ ([_]) rfl (by first | exact (OwnI.lit1 _ _ _ _ (Nat.le_refl _)).ints | exact ((OwnI.lit1 _ _ _ _ (Nat.le_refl _)).ints).ext (by (repeat (first | exact Ext.refl _ | assumption | refine Ext.alloc ?_ _ | refine Ext.drewN ?_ _ | refine Ext.drew ?_)))) (by first | omega | (simp; omega)) (by first | omega | (simp; done) | (simp; omega)) ?_)
          intro v6 w6 o6 g6
          have HS6 := Lib.hid (HS5.out.more (by (repeat (first | exact Ext.refl _ | assumption | refine Ext.alloc ?_ _ | refine Ext.drewN ?_ _ | refine Ext.drew ?_))) (HS5.out.own.ext (by (repeat (first | exact Ext.refl _ | assumption | refine Ext.alloc ?_ _ | refine Ext.drewN ?_ _ | refine Ext.drew ?_)))) o6 g6)
          clear HS5 o6 g6
          go_wp2
          go_roundw
          case rel => exact Lib.hid (hmi.out _ _ _ 11 (by omega) (by first | omega | (simp; omega) | simp) (HP.out.loop ht0 ht15) (HS6.out.mono (by omega)))
          case measure => simp [intOf]; omega
        · go_wp2_with fail
          refine (HC.out _ _ (HS4.out.rd.ext (by (repeat (first | exact Ext.refl _ | assumption | refine Ext.alloc ?_ _ | refine Ext.drewN ?_ _ | refine Ext.drew ?_)))) (by omega)).mono ?_
          rintro e w5 ⟨vs, Ls, rfl, os, hls, hps, hr5, ht5⟩
          have HPs := Lib.hid (hps rfl).2
          clear hps
          have HS5 := Lib.hid (HS4.out.drawn (by (repeat (first | exact Ext.refl _ | assumption | refine Ext.alloc ?_ _ | refine Ext.drewN ?_ _ | refine Ext.drew ?_))) ht5 hr5)
          obtain ⟨ak, ck, rfl, -⟩ := os.shape
          have hz5 := HS5.out.tch.size
          have hz4 := HS4.out.tch.size
          have OS := Lib.hid (os.ints)
          clear HS4 hr5 ht5 os
          go_wp2_with (at_builtin; refine any_append_ints (by rfl) _ _ _ rfl (w.heap.size) 3 Tryd.underlying29 infoInt _ (_) rfl (HS5.out.own.ext (by (repeat (first | exact Ext.refl _ | assumption | refine Ext.alloc ?_ _ | refine Ext.drewN ?_ _ | refine Ext.drew ?_)))) _ _ (Ls) rfl (OS.out.ext (by (repeat (first | exact Ext.refl _ | assumption | refine Ext.alloc ?_ _ | refine Ext.drewN ?_ _ | refine Ext.drew ?_)))) (by first | omega | (simp; omega)) (by first | omega | (simp; done) | (simp; omega)) ?_)
          intro v6 w6 o6 g6
          have HS6 := Lib.hid (HS5.out.more (by (repeat (first | exact Ext.refl _ | assumption | refine Ext.alloc ?_ _ | refine Ext.drewN ?_ _ | refine Ext.drew ?_))) (HS5.out.own.ext (by (repeat (first | exact Ext.refl _ | assumption | refine Ext.alloc ?_ _ | refine Ext.drewN ?_ _ | refine Ext.drew ?_)))) o6 g6)
          obtain ⟨L6, hL6, hl6⟩ := namedI (L ++ Ls)
          rw [← hL6.out] at o6 HS6
          rw [List.length_append] at hl6
          have hl6' : L6.length ≤ L.length + 17 := by omega
          have hz6 := HS6.out.tch.size
          obtain ⟨a6, c6, rfl⟩ := HS6.out.shape
          clear HS5 o6 g6 hl6
          go_wp2_with fail
          refine (l20Test0_c g _ _ (HS6.out.rd.ext (by (repeat (first | exact Ext.refl _ | assumption | refine Ext.alloc ?_ _ | refine Ext.drewN ?_ _ | refine Ext.drew ?_)))) (by omega)).mono ?_
          rintro e w7 ⟨t, rfl, ⟨ht0, ht15⟩, hr7, ht7⟩
          have HS7 := Lib.hid (HS6.out.drawn (by (repeat (first | exact Ext.refl _ | assumption | refine Ext.alloc ?_ _ | refine Ext.drewN ?_ _ | refine Ext.drew ?_))) ht7 hr7)
          have hz7 := HS7.out.tch.size
          clear HS6 hr7 ht7
          go_wp2_with (at_builtin; refine any_append_ints (by rfl) _ _ _ rfl (w.heap.size) 3 Tryd.underlying29 infoInt _ (_) rfl (HS7.out.own.ext (by (repeat (first | exact Ext.refl _ | assumption | refine Ext.alloc ?_ _ | refine Ext.drewN ?_ _ | refine Ext.drew ?_)))) _ _ ([_]) rfl (by first | exact (OwnI.lit1 _ _ _ _ (Nat.le_refl _)).ints | exact ((OwnI.lit1 _ _ _ _ (Nat.le_refl _)).ints).ext (by (repeat (first | exact Ext.refl _ | assumption | refine Ext.alloc ?_ _ | refine Ext.drewN ?_ _ | refine Ext.drew ?_)))) (by first | omega | (simp; omega)) (by first | omega | (simp; done) | (simp; omega)) ?_)
          intro v8 w8 o8 g8
          have HS8 := Lib.hid (HS7.out.more (by (repeat (first | exact Ext.refl _ | assumption | refine Ext.alloc ?_ _ | refine Ext.drewN ?_ _ | refine Ext.drew ?_))) (HS7.out.own.ext (by (repeat (first | exact Ext.refl _ | assumption | refine Ext.alloc ?_ _ | refine Ext.drewN ?_ _ | refine Ext.drew ?_)))) o8 g8)
          clear HS7 o8 g8
          go_wp2
          go_roundw
          case rel => exact Lib.hid (hmi.out _ _ _ (b - 1) (by omega) (by first | omega | (simp; omega) | simp) (by rw [hL6.out]; exact HP.out.ifs HPs.out ht0 ht15) (HS8.out.mono (by omega)))
          case measure => simp [intOf]; omega
        · go_wp2_with fail
          refine (HC.out _ _ (HS4.out.rd.ext (by (repeat (first | exact Ext.refl _ | assumption | refine Ext.alloc ?_ _ | refine Ext.drewN ?_ _ | refine Ext.drew ?_)))) (by omega)).mono ?_
          rintro e w5 ⟨vs, Ls, rfl, os, hls, hps, hr5, ht5⟩
          have HPs := Lib.hid (hps rfl).2
          clear hps
          have HS5 := Lib.hid (HS4.out.drawn (by (repeat (first | exact Ext.refl _ | assumption | refine Ext.alloc ?_ _ | refine Ext.drewN ?_ _ | refine Ext.drew ?_))) ht5 hr5)
          obtain ⟨ak, ck, rfl, -⟩ := os.shape
          have hz5 := HS5.out.tch.size
          have hz4 := HS4.out.tch.size
          have OS := Lib.hid (os.ints)
          have hgw4 : g < w4.heap.size := by omega
          have OE := Lib.hid (OwnI.drawn (OwnI.ext (OwnI.empty w4 3) (by (repeat (first | exact Ext.refl _ | assumption | refine Ext.alloc ?_ _ | refine Ext.drewN ?_ _ | refine Ext.drew ?_)))) ht5 hgw4)
          have OE2 := Lib.hid (OE.out.mono hz4)
          have LT := Lib.hid (fun k hk => (World.ownsRow.lt HS4.out.own k hk).2)
          clear hr5 ht5 os HS4
          go_wp2_with (at_builtin; refine any_append_ints (by rfl) _ _ _ rfl (w.heap.size) 3 Tryd.underlying29 infoInt _ ([]) rfl (OE2.out.ext (by (repeat (first | exact Ext.refl _ | assumption | refine Ext.alloc ?_ _ | refine Ext.drewN ?_ _ | refine Ext.drew ?_)))) _ _ (Ls) rfl (OS.out.ext (by (repeat (first | exact Ext.refl _ | assumption | refine Ext.alloc ?_ _ | refine Ext.drewN ?_ _ | refine Ext.drew ?_)))) (by first | omega | (simp; omega)) (by first | omega | (simp; done) | (simp; omega)) ?_)
          intro v6 w6 o6 g6
          have HS6 := Lib.hid (HS5.out.more (by (repeat (first | exact Ext.refl _ | assumption | refine Ext.alloc ?_ _ | refine Ext.drewN ?_ _ | refine Ext.drew ?_))) (OE2.out.ext (by (repeat (first | exact Ext.refl _ | assumption | refine Ext.alloc ?_ _ | refine Ext.drewN ?_ _ | refine Ext.drew ?_)))) o6 g6)
          have OL6 := Lib.hid (OwnI.kept (HS5.out.own.ext (by (repeat (first | exact Ext.refl _ | assumption | refine Ext.alloc ?_ _ | refine Ext.drewN ?_ _ | refine Ext.drew ?_)))) g6 (by
            cases hv : (Value.slice av L.length cv).ownBlock with
            | none => exact .inl rfl
            | some k => refine .inr ?_; have := LT.out k hv; simp [Value.ownBlock]; omega))
          have hz6 := HS6.out.tch.size
          obtain ⟨a6, c6, rfl⟩ := HS6.out.shape
          clear HS5 o6 g6 OE OE2 LT
          go_wp2_with (at_builtin; refine any_append_ints (by rfl) _ _ _ rfl (w.heap.size) 3 Tryd.underlying29 infoInt _ (_) rfl (HS6.out.own.ext (by (repeat (first | exact Ext.refl _ | assumption | refine Ext.alloc ?_ _ | refine Ext.drewN ?_ _ | refine Ext.drew ?_)))) _ _ (L) rfl (OL6.out.ints.ext (by (repeat (first | exact Ext.refl _ | assumption | refine Ext.alloc ?_ _ | refine Ext.drewN ?_ _ | refine Ext.drew ?_)))) (by first | omega | (simp; omega)) (by first | omega | (simp; done) | (simp; omega)) ?_)
          intro v7 w7 o7 g7
          have HS7 := Lib.hid (HS6.out.more (by (repeat (first | exact Ext.refl _ | assumption | refine Ext.alloc ?_ _ | refine Ext.drewN ?_ _ | refine Ext.drew ?_))) (HS6.out.own.ext (by (repeat (first | exact Ext.refl _ | assumption | refine Ext.alloc ?_ _ | refine Ext.drewN ?_ _ | refine Ext.drew ?_)))) o7 g7)
          obtain ⟨L7, hL7, hl7⟩ := namedI (Ls ++ L)
          rw [← hL7.out] at o7 HS7
          rw [List.length_append] at hl7
          have hl7' : L7.length ≤ L.length + 17 := by omega
          have hz7 := HS7.out.tch.size
          obtain ⟨a7, c7, rfl⟩ := HS7.out.shape
          clear HS6 o7 g7 hl7 OL6
          go_wp2_with (at_builtin; refine any_append_ints (by rfl) _ _ _ rfl (w.heap.size) 3 Tryd.underlying29 infoInt _ (_) rfl (HS7.out.own.ext (by (repeat (first | exact Ext.refl _ | assumption | refine Ext.alloc ?_ _ | refine Ext.drewN ?_ _ | refine Ext.drew ?_)))) _ _ ([_]) rfl (by first | exact (OwnI.lit1 _ _ _ _ (Nat.le_refl _)).ints | exact ((OwnI.lit1 _ _ _ _ (Nat.le_refl _)).ints).ext (by (repeat (first | exact Ext.refl _ | assumption | refine Ext.alloc ?_ _ | refine Ext.drewN ?_ _ | refine Ext.drew ?_)))) (by first | omega | (simp; omega)) (by first | omega | (simp; done) | (simp; omega)) ?_)
          intro v8 w8 o8 g8
          have HS8 := Lib.hid (HS7.out.more (by (repeat (first | exact Ext.refl _ | assumption | refine Ext.alloc ?_ _ | refine Ext.drewN ?_ _ | refine Ext.drew ?_))) (HS7.out.own.ext (by (repeat (first | exact Ext.refl _ | assumption | refine Ext.alloc ?_ _ | refine Ext.drewN ?_ _ | refine Ext.drew ?_)))) o8 g8)
          clear HS7 o8 g8
          go_wp2
          go_roundw
          case rel => exact Lib.hid (hmi.out _ _ _ (b - 1) (by omega) (by first | omega | (simp; omega) | simp) (by rw [hL7.out]; exact HPs.out.seq HP.out) (HS8.out.mono (by omega)))
          case measure => simp [intOf]; omega
        · go_wp2_with fail
          refine (HC.out _ _ (HS4.out.rd.ext (by (repeat (first | exact Ext.refl _ | assumption | refine Ext.alloc ?_ _ | refine Ext.drewN ?_ _ | refine Ext.drew ?_)))) (by omega)).mono ?_
          rintro e w5 ⟨vs, Ls, rfl, os, hls, hps, hr5, ht5⟩
          have HPs := Lib.hid (hps rfl).2
          clear hps
          have HS5 := Lib.hid (HS4.out.drawn (by (repeat (first | exact Ext.refl _ | assumption | refine Ext.alloc ?_ _ | refine Ext.drewN ?_ _ | refine Ext.drew ?_))) ht5 hr5)
          obtain ⟨ak, ck, rfl, -⟩ := os.shape
          have hz5 := HS5.out.tch.size
          have hz4 := HS4.out.tch.size
          have OS := Lib.hid (os.ints)
          clear HS4 hr5 ht5 os
          go_wp2_with (at_builtin; refine any_append_ints (by rfl) _ _ _ rfl (w.heap.size) 3 Tryd.underlying29 infoInt _ (_) rfl (HS5.out.own.ext (by (repeat (first | exact Ext.refl _ | assumption | refine Ext.alloc ?_ _ | refine Ext.drewN ?_ _ | refine Ext.drew ?_)))) _ _ (Ls) rfl (OS.out.ext (by (repeat (first | exact Ext.refl _ | assumption | refine Ext.alloc ?_ _ | refine Ext.drewN ?_ _ | refine Ext.drew ?_)))) (by first | omega | (simp; omega)) (by first | omega | (simp; done) | (simp; omega)) ?_)
          intro v6 w6 o6 g6
          have HS6 := Lib.hid (HS5.out.more (by (repeat (first | exact Ext.refl _ | assumption | refine Ext.alloc ?_ _ | refine Ext.drewN ?_ _ | refine Ext.drew ?_))) (HS5.out.own.ext (by (repeat (first | exact Ext.refl _ | assumption | refine Ext.alloc ?_ _ | refine Ext.drewN ?_ _ | refine Ext.drew ?_)))) o6 g6)
          obtain ⟨L6, hL6, hl6⟩ := namedI (L ++ Ls)
          rw [← hL6.out] at o6 HS6
          rw [List.length_append] at hl6
          have hl6' : L6.length ≤ L.length + 17 := by omega
          have hz6 := HS6.out.tch.size
          obtain ⟨a6, c6, rfl⟩ := HS6.out.shape
          clear HS5 o6 g6 hl6
          go_wp2_with (at_builtin; refine any_append_ints (by rfl) _ _ _ rfl (w.heap.size) 3 Tryd.underlying29 infoInt _ (_) rfl (HS6.out.own.ext (by (repeat (first | exact Ext.refl _ | assumption | refine Ext.alloc ?_ _ | refine Ext.drewN ?_ _ | refine Ext.drew ?_)))) _ _ ([_]) rfl (by first | exact (OwnI.lit1 _ _ _ _ (Nat.le_refl _)).ints | exact ((OwnI.lit1 _ _ _ _ (Nat.le_refl _)).ints).ext (by (repeat (first | exact Ext.refl _ | assumption | refine Ext.alloc ?_ _ | refine Ext.drewN ?_ _ | refine Ext.drew ?_)))) (by first | omega | (simp; omega)) (by first | omega | (simp; done) | (simp; omega)) ?_)
          intro v7 w7 o7 g7
          have HS7 := Lib.hid (HS6.out.more (by (repeat (first | exact Ext.refl _ | assumption | refine Ext.alloc ?_ _ | refine Ext.drewN ?_ _ | refine Ext.drew ?_))) (HS6.out.own.ext (by (repeat (first | exact Ext.refl _ | assumption | refine Ext.alloc ?_ _ | refine Ext.drewN ?_ _ | refine Ext.drew ?_)))) o7 g7)
          clear HS6 o7 g7
          go_wp2
          go_roundw
          case rel => exact Lib.hid (hmi.out _ _ _ (b - 1) (by omega) (by first | omega | (simp; omega) | simp) (by rw [hL6.out]; exact HP.out.seq HPs.out) (HS7.out.mono (by omega)))
          case measure => simp [intOf]; omega
      · have HSx := Lib.hid (HS.out.mono (m' := m + 3 + 2 * b) (by omega))
        have hL37 : L.length ≤ 37 := by omega
        clear HS hL hij hib
        have hzx := HSx.out.tch.size
        by_cases hj0 : 0 < j
        all_goals
          go_upto_if 72 with fail
          go_cut [7] (fun v wx => Hid (∃ L, L.length ≤ 16 ∧ PvT L ∧ WordSt w wx g (m + 3 + 2 * b) v L))
          case first =>
            by_cases h16 : L.length ≤ 16
            · go_wp2
              go_meet
              case rel => exact Lib.hid ⟨_, h16, HP.out, HSx.out.ext (by (repeat (first | exact Ext.refl _ | assumption | refine Ext.alloc ?_ _ | refine Ext.drewN ?_ _ | refine Ext.drew ?_)))⟩
            · go_wp2
              go_meet
              case rel => exact Lib.hid ⟨[16, 210], by simp, PvT.loop (L := [16]) (t := 10) (PvT.one (.inr (by decide))) (by decide) (by decide), HSx.out.other (by (repeat (first | exact Ext.refl _ | assumption | refine Ext.alloc ?_ _ | refine Ext.drewN ?_ _ | refine Ext.drew ?_))) (OwnI.lit2 _ _ _ _ _ (by first | omega | (simp; omega)))⟩
          case rest =>
            obtain ⟨M, hM, hpM, hsM⟩ := hcut.out
            have HPM := Lib.hid hpM
            obtain ⟨am, cm, rfl⟩ := hsM.shape
            have HM := Lib.hid hsM
            clear hcut HSx hsM hzx hL37 hpM HP
            go_wp2_with fail
            refine (oddN_c g _ n _ (HM.out.rd.ext (by (repeat (first | exact Ext.refl _ | assumption | refine Ext.alloc ?_ _ | refine Ext.drewN ?_ _ | refine Ext.drew ?_)))) (by omega)).mono ?_
            rintro e w5 ⟨hn0, od, rfl, hr5, ht5⟩
            have HN0 := Lib.hid hn0
            clear hn0
            have H5 := Lib.hid (HM.out.drawn (by (repeat (first | exact Ext.refl _ | assumption | refine Ext.alloc ?_ _ | refine Ext.drewN ?_ _ | refine Ext.drew ?_))) ht5 hr5)
            have hz5 := H5.out.tch.size
            clear HM hr5 ht5
            cases od
            · go_wp2
              go_ret
              exact (H5.out.ext (by (repeat (first | exact Ext.refl _ | assumption | refine Ext.alloc ?_ _ | refine Ext.drewN ?_ _ | refine Ext.drew ?_)))).done (by omega) (fun _ => ⟨hM, HPM.out⟩) (by omega)
            · go_wp2_with fail
              refine (pick_c g _ 4 _ (H5.out.rd.ext (by (repeat (first | exact Ext.refl _ | assumption | refine Ext.alloc ?_ _ | refine Ext.drewN ?_ _ | refine Ext.drew ?_)))) (by omega)).mono ?_
              rintro e w6 ⟨y, rfl, hy, hr6, ht6⟩
              have H6 := Lib.hid (H5.out.drawn (by (repeat (first | exact Ext.refl _ | assumption | refine Ext.alloc ?_ _ | refine Ext.drewN ?_ _ | refine Ext.drew ?_))) ht6 hr6)
              have hz6 := H6.out.tch.size
              clear H5 hr6 ht6
              rcases (show y = 0 ∨ y = 1 ∨ y = 2 ∨ 3 ≤ y by omega) with rfl | rfl | rfl | hy3
              · go_wp2
                go_ret
                exact (H6.out.other (by (repeat (first | exact Ext.refl _ | assumption | refine Ext.alloc ?_ _ | refine Ext.drewN ?_ _ | refine Ext.drew ?_))) ((OwnI.empty _ _).mono (by first | omega | (simp; omega)))).done (by simp) (fun h0 => by have := HN0.out h0; simp at this) (by omega)
              · go_wp2_with (at_builtin; refine any_append_ints (by rfl) _ _ _ rfl (w.heap.size) 3 Tryd.underlying29 infoInt _ (_) rfl (H6.out.own.ext (by (repeat (first | exact Ext.refl _ | assumption | refine Ext.alloc ?_ _ | refine Ext.drewN ?_ _ | refine Ext.drew ?_)))) _ _ ([_]) rfl (by first | exact (OwnI.lit1 _ _ _ _ (Nat.le_refl _)).ints | exact ((OwnI.lit1 _ _ _ _ (Nat.le_refl _)).ints).ext (by (repeat (first | exact Ext.refl _ | assumption | refine Ext.alloc ?_ _ | refine Ext.drewN ?_ _ | refine Ext.drew ?_)))) (by first | omega | (simp; omega)) (by first | omega | (simp; done) | (simp; omega)) ?_)
                intro v7 w7 o7 g7
                have H7 := Lib.hid (H6.out.more (by (repeat (first | exact Ext.refl _ | assumption | refine Ext.alloc ?_ _ | refine Ext.drewN ?_ _ | refine Ext.drew ?_))) (H6.out.own.ext (by (repeat (first | exact Ext.refl _ | assumption | refine Ext.alloc ?_ _ | refine Ext.drewN ?_ _ | refine Ext.drew ?_)))) o7 g7)
                clear H6 o7 g7
                go_wp2
                go_ret
                exact (H7.out.ext (by (repeat (first | exact Ext.refl _ | assumption | refine Ext.alloc ?_ _ | refine Ext.drewN ?_ _ | refine Ext.drew ?_)))).done (by simp; omega) (fun h0 => by have := HN0.out h0; simp at this) (by omega)
              · go_wp2_with fail
                refine (pick_c g _ 4 _ (H6.out.rd.ext (by (repeat (first | exact Ext.refl _ | assumption | refine Ext.alloc ?_ _ | refine Ext.drewN ?_ _ | refine Ext.drew ?_)))) (by omega)).mono ?_
                rintro e w7 ⟨z, rfl, hz, hr7, ht7⟩
                obtain ⟨u, hu⟩ := lit4 3 19 31 116 z (by omega)
                have hcz := (World.cell?_of_block (a := ⟨w6.heap.size, z, none⟩) (ht7.block w6.heap.size (by simp) (.inr (by omega)))).trans ((cell_lit w6 _ 3 z).trans hu)
                have H7 := Lib.hid (H6.out.drawn (by (repeat (first | exact Ext.refl _ | assumption | refine Ext.alloc ?_ _ | refine Ext.drewN ?_ _ | refine Ext.drew ?_))) ht7 hr7)
                have hz7 := H7.out.tch.size
                have hz67 : w6.heap.size < w7.heap.size := by have := ht7.size; simp at this; omega
                have hz4 : (z : Int) < 4 := by omega
                clear H6 hr7 ht7 hu hz
                go_wp2_with (at_builtin; refine any_append_ints (by rfl) _ _ _ rfl (w.heap.size) 3 Tryd.underlying29 infoInt _ (_) rfl (H7.out.own.ext (by (repeat (first | exact Ext.refl _ | assumption | refine Ext.alloc ?_ _ | refine Ext.drewN ?_ _ | refine Ext.drew ?_)))) _ _ ([_]) rfl (by first | exact (OwnI.lit1 _ _ _ _ (Nat.le_refl _)).ints | exact ((OwnI.lit1 _ _ _ _ (Nat.le_refl _)).ints).ext (by (repeat (first | exact Ext.refl _ | assumption | refine Ext.alloc ?_ _ | refine Ext.drewN ?_ _ | refine Ext.drew ?_)))) (by first | omega | (simp; omega)) (by first | omega | (simp; done) | (simp; omega)) ?_)
                intro v8 w8 o8 g8
                have H8 := Lib.hid (H7.out.more (by (repeat (first | exact Ext.refl _ | assumption | refine Ext.alloc ?_ _ | refine Ext.drewN ?_ _ | refine Ext.drew ?_))) (H7.out.own.ext (by (repeat (first | exact Ext.refl _ | assumption | refine Ext.alloc ?_ _ | refine Ext.drewN ?_ _ | refine Ext.drew ?_)))) o8 g8)
                clear H7 o8 g8
                go_wp2
                go_ret
                exact (H8.out.ext (by (repeat (first | exact Ext.refl _ | assumption | refine Ext.alloc ?_ _ | refine Ext.drewN ?_ _ | refine Ext.drew ?_)))).done (by simp; omega) (fun h0 => by have := HN0.out h0; simp at this) (by omega)
              · have e0 : ((y : Int) == 0) = false := by simp; omega
                have e1 : ((y : Int) == 1) = false := by simp; omega
                have e2 : ((y : Int) == 2) = false := by simp; omega
                go_wp2
                go_loopw [7] (fun v wr => Hid (∃ (M : List Int), M.length ≤ 17 ∧ WordSt w wr g (m + 3 + 2 * b + 1 + 1) v M)) (fun v _ => 17 - (match v with | .slice _ n _ => n | _ => 0))
                case atStart => exact Lib.hid ⟨M, by omega, H6.out⟩
                case round =>
                  obtain ⟨N, hN, hsN⟩ := hrel.out
                  obtain ⟨an, cn, rfl⟩ := hsN.shape
                  have HN := Lib.hid hsN
                  have hzN := HN.out.tch.size
                  clear hrel H6 hsN
                  by_cases h16 : N.length ≤ 16
                  · go_wp2_with (at_builtin; refine any_append_ints (by rfl) _ _ _ rfl (w.heap.size) 3 Tryd.underlying29 infoInt _ (_) rfl (HN.out.own.ext (by (repeat (first | exact Ext.refl _ | assumption | refine Ext.alloc ?_ _ | refine Ext.drewN ?_ _ | refine Ext.drew ?_)))) _ _ ([_]) rfl (by first | exact (OwnI.lit1 _ _ _ _ (Nat.le_refl _)).ints | exact ((OwnI.lit1 _ _ _ _ (Nat.le_refl _)).ints).ext (by (repeat (first | exact Ext.refl _ | assumption | refine Ext.alloc ?_ _ | refine Ext.drewN ?_ _ | refine Ext.drew ?_)))) (by first | omega | (simp; omega)) (by first | omega | (simp; done) | (simp; omega)) ?_)
                    intro v7 w7 o7 g7
                    have H7 := Lib.hid (HN.out.more (by (repeat (first | exact Ext.refl _ | assumption | refine Ext.alloc ?_ _ | refine Ext.drewN ?_ _ | refine Ext.drew ?_))) (HN.out.own.ext (by (repeat (first | exact Ext.refl _ | assumption | refine Ext.alloc ?_ _ | refine Ext.drewN ?_ _ | refine Ext.drew ?_)))) o7 g7)
                    obtain ⟨L7, hL7, hl7⟩ := namedI (N ++ [200])
                    rw [← hL7.out] at o7 H7
                    rw [List.length_append] at hl7
                    have hl7' : L7.length = N.length + 1 := by rw [hl7]; rfl
                    obtain ⟨a7, c7, rfl⟩ := H7.out.shape
                    have HL7 := Lib.hid hl7'
                    clear HN o7 g7 hl7 hl7'
                    go_wp2
                    go_roundw
                    case rel => exact Lib.hid ⟨L7, by have := HL7.out; omega, H7.out.ext (by (repeat (first | exact Ext.refl _ | assumption | refine Ext.alloc ?_ _ | refine Ext.drewN ?_ _ | refine Ext.drew ?_)))⟩
                    case measure => have := HL7.out; simp; omega
                  · go_wp2
                    go_ret
                    exact (HN.out.ext (by (repeat (first | exact Ext.refl _ | assumption | refine Ext.alloc ?_ _ | refine Ext.drewN ?_ _ | refine Ext.drew ?_)))).done (by omega) (fun h0 => by have := HN0.out h0; simp at this) (by omega)
theorem l20Words_c : ∀ (d g m : Nat) (n : Int) (w : World), Rd w g m → m + kw d ≤ 10000 → d ≤ 10 →
    Calls Tryd.prog 62 #[.pointer (some ⟨g, 0, none⟩), .int .i64 (d : Int), .int .i64 n] w (DrewW w g (m + kw d) n)
  | 0, g, m, n, w, h, hm, hd => l20Words_step 0 g m 0 n w h (by decide) hm hd (fun h => absurd h (by decide))
  | d + 1, g, m, n, w, h, hm, hd => by
    refine l20Words_step (d + 1) g m (kw d + 12) n w h (by simp only [kw]; omega) hm hd fun _ => ⟨by omega, fun m' w' h' hm' => ?_⟩
    have := l20Words_c d g m' 0 w' h' (by omega) (by omega)
    rw [show kw d + 12 - 12 = kw d by omega, show (((d + 1 : Nat) : Int) - 1) = (d : Int) by omega]
    exact this
end Go.Proofs.YtlaamecfknkmlaaDoor
