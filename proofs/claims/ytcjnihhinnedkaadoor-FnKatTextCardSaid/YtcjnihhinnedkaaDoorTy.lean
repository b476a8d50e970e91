/- Contracts: the text of a tree, in the program. -/
import Derived.Test.YtcjnihhinnedkaaDoorTx
import Derived.Deep.RegionHeld3
namespace Go.Proofs.YtcjnihhinnedkaaDoor
set_option linter.unusedVariables false
open Go.RowKit Go.Kt

theorem isActT_c (t : Int) (w : World) :
    Calls Tryd.prog 28 #[.int .i64 t] w fun e w' => e = .returned (.bool (inB t 16 18)) ∧ w = w' := by
  by_cases h1 : 16 ≤ t
  all_goals
    go_enter Tryd.func28, Tryd.ntmps28
    go_wp2
    go_ret
    exact ⟨by simp [inB, h1]; try omega, rfl⟩
theorem one_at (w0 : World) (x : Int) : IntsAt (w0.alloc (.cells #[.int .i64 x] 3)) (some ⟨w0.heap.size, 0, none⟩) [x] := by
  refine ⟨w0.heap.size, 0, fun _ => ⟨rfl, by simp⟩, fun i hi => ?_⟩
  obtain rfl : i = 0 := by simp at hi; omega
  simp [nth, go_sem]
theorem two_at (w0 : World) (x y : Int) : IntsAt (w0.alloc (.cells #[.int .i64 x, .int .i64 y] 3)) (some ⟨w0.heap.size, 0, none⟩) [x, y] := by
  refine ⟨w0.heap.size, 0, fun _ => ⟨rfl, by simp⟩, fun i hi => ?_⟩
  obtain rfl | rfl : i = 0 ∨ i = 1 := by simp at hi; omega
  · simp [nth, go_sem]
  · simp [nth, go_sem]
theorem one_of {W : World} {B : Nat} {x : Int} (h0 : W.cell? ⟨B, 0, none⟩ = some (.int .i64 x)) : IntsAt W (some ⟨B, 0, none⟩) [x] := by
  refine ⟨B, 0, fun _ => ⟨rfl, lt_of_cell h0⟩, fun i hi => ?_⟩
  obtain rfl : i = 0 := by simp at hi; omega
  exact h0
theorem two_of {W : World} {B : Nat} {x y : Int} (h0 : W.cell? ⟨B, 0, none⟩ = some (.int .i64 x)) (h1 : W.cell? ⟨B, 1, none⟩ = some (.int .i64 y)) : IntsAt W (some ⟨B, 0, none⟩) [x, y] := by
  refine ⟨B, 0, fun _ => ⟨rfl, lt_of_cell h0⟩, fun i hi => ?_⟩
  obtain rfl | rfl : i = 0 ∨ i = 1 := by simp at hi; omega
  · exact h0
  · exact h1
set_option maxRecDepth 100000 in
set_option maxHeartbeats 4000000 in
theorem text_c : ∀ (t : Kt), t.Good → t.words.length ≤ 40 → ∀ (g : Nat) (w : World), NamesW w → TreeAt w (fun _ => False) t g →
      Calls Tryd.prog 22 #[.pointer (some ⟨g, 0, none⟩)] w (RetS w t.txt)
  | .leaf y, hg, h40, g, w, hn, ht => by
    have hg : 0 ≤ y ∧ y ≤ 18 := hg
    have c0 : w.cell? ⟨g, 0, none⟩ = some (.int .i64 y) := ht.2.1
    clear ht
    by_cases h15 : y ≤ 15
    · obtain ⟨X, rfl⟩ := Int.eq_ofNat_of_zero_le hg.1
      have hact : inB (X : Int) 16 18 = false := by simp [inB]; omega
      have HF : Hid ((Kt.leaf (X : Int)).txt = testS X) := by unfold Hid; simp only [Kt.txt]; rw [if_pos h15]; rfl
      have e1 : ((X : Int) == 19) = false := by simp; omega
      have e2 : ((X : Int) == 20) = false := by simp; omega
      have e3 : ((X : Int) == 21) = false := by simp; omega
      have CT : Hid (Calls Tryd.prog 36 #[.int .i64 X] w (RetS w (testS X))) := iTestText_c X (by omega) w hn
      generalize testS X = s at *
      clear hg h15 hn
      go_enter Tryd.func22, Tryd.ntmps22
      go_wp2_with fail
      refine (isActT_c _ _).mono ?_
      rw [hact]
      rintro e w1 ⟨rfl, rfl⟩
      go_wp2_with (go_at_call 36; refine CT.out.mono ?_; rintro e w1 ⟨rfl, hx⟩)
      go_ret
      exact ⟨by rw [HF.out]; rfl, hx⟩
    · have hact : inB y 16 18 = true := by simp [inB]; omega
      have HF : Hid ((Kt.leaf y).txt = letterS y) := by unfold Hid; simp only [Kt.txt]; rw [if_neg h15]
      rcases (show y = 16 ∨ y = 17 ∨ y = 18 by omega) with rfl | rfl | rfl
      all_goals
        clear hg h15 hn
        go_enter Tryd.func22, Tryd.ntmps22
        go_wp2_with fail
        refine (isActT_c _ _).mono ?_
        rw [hact]
        rintro e w1 ⟨rfl, rfl⟩
        go_wp2
        go_ret
        exact ⟨by rw [HF.out]; rfl, Ext.refl _⟩
  | .star b, hg, h40, g, w, hn, ht => by
    obtain ⟨-, c0, h, c, ga, c1, -, c2, hta⟩ := ht
    replace c2 : w.cell? ⟨h, 0, none⟩ = some (.pointer (some ⟨ga, 0, none⟩)) := c2
    have zg := lt_of_cell c0
    have zh := lt_of_cell c2
    have HT := Lib.hid hta
    have HN := Lib.hid hn
    have hlen : (Kt.star b).words.length = b.words.length + 1 := by simp [Kt.words]
    have hsz := b.txt_size
    have ih : Hid (∀ w', Ext w w' → Calls Tryd.prog 22 #[.pointer (some ⟨ga, 0, none⟩)] w' (RetS w' b.txt)) := fun w' hx =>
      text_c b hg (by omega) ga w' (HN.out.ext hx) (HT.out.ext hx)
    have CW : Hid (∀ w' a cap, Ext w w' → IntsAt w' a [19, 20] → Calls Tryd.prog 35 #[.pointer (some ⟨ga, 0, none⟩), .slice a 2 cap] w' (RetS w' (brk (b.top == 19 || b.top == 20) b.txt))) := fun w' a cap hx hl => by
      rw [← contains_two]
      exact wrap_c b ga a cap [19, 20] w' (top_cell (HT.out.ext hx)) hl (by decide) (by omega) (fun w'' hx2 => ih.out w'' (hx.trans hx2))
    have HF : Hid ((Kt.star b).txt = brk (b.top == 19 || b.top == 20) b.txt ++ ⟨#[42]⟩) := rfl
    have hbs := brk_size (b.top == 19 || b.top == 20) b.txt
    generalize brk (b.top == 19 || b.top == 20) b.txt = s at *
    have hadd : ∀ W : World, (Op.stringOp .add s ⟨#[42]⟩).run Tryd.prog W = .ok (.string (s ++ ⟨#[42]⟩)) W := fun W => run_string_add_sum (P := Tryd.prog) W _ _ (by rw [sz1]; omega)
    have hact : inB 21 16 18 = false := rfl
    clear hg hn hta hlen hsz hbs ih
    go_enter Tryd.func22, Tryd.ntmps22
    go_wp2_with fail
    refine (isActT_c _ _).mono ?_
    rw [hact]
    rintro e w1 ⟨rfl, rfl⟩
    go_wp2_with (go_at_call 35; refine (CW.out _ _ _ (by (repeat (first | exact Ext.refl _ | assumption | refine Ext.alloc ?_ _ | refine Ext.drewN ?_ _ | refine Ext.drew ?_))) (two_at _ _ _)).mono ?_; rintro e w1 ⟨rfl, hx⟩)
    go_ret
    exact ⟨by rw [HF.out]; rfl, Ext.trans (by (repeat (first | exact Ext.refl _ | assumption | refine Ext.alloc ?_ _ | refine Ext.drewN ?_ _ | refine Ext.drew ?_))) hx⟩
  | .two y b c, hg, h40, g, w, hn, ht => by
    obtain ⟨-, c0, h, cc, ga, gb, c1, -, c2, c3, hta, htb⟩ := ht
    replace c2 : w.cell? ⟨h, 0, none⟩ = some (.pointer (some ⟨ga, 0, none⟩)) := c2
    replace c3 : w.cell? ⟨h, 1, none⟩ = some (.pointer (some ⟨gb, 0, none⟩)) := c3
    have zg := lt_of_cell c0
    have zh := lt_of_cell c2
    have HT := Lib.hid hta
    have HU := Lib.hid htb
    have HN := Lib.hid hn
    have hlen : (Kt.two y b c).words.length = b.words.length + c.words.length + 1 := by simp [Kt.words]; omega
    have hsz := b.txt_size
    have hsz2 := c.txt_size
    have ih : Hid (∀ w', Ext w w' → Calls Tryd.prog 22 #[.pointer (some ⟨ga, 0, none⟩)] w' (RetS w' b.txt)) := fun w' hx =>
      text_c b hg.2.1 (by omega) ga w' (HN.out.ext hx) (HT.out.ext hx)
    have ih2 : Hid (∀ w', Ext w w' → Calls Tryd.prog 22 #[.pointer (some ⟨gb, 0, none⟩)] w' (RetS w' c.txt)) := fun w' hx =>
      text_c c hg.2.2 (by omega) gb w' (HN.out.ext hx) (HU.out.ext hx)
    have C1 := Lib.hid c1
    have C2 := Lib.hid c2
    have C3 := Lib.hid c3
    have hy : y = 19 ∨ y = 20 := hg.1
    rcases hy with rfl | rfl
    · have CW : Hid (∀ w' a cap, Ext w w' → IntsAt w' a [20] → Calls Tryd.prog 35 #[.pointer (some ⟨ga, 0, none⟩), .slice a 1 cap] w' (RetS w' (brk (b.top == 20) b.txt))) := fun w' a cap hx hl => by
        rw [← contains_one]
        exact wrap_c b ga a cap [20] w' (top_cell (HT.out.ext hx)) hl (by decide) (by omega) (fun w'' hx2 => ih.out w'' (hx.trans hx2))
      have CX : Hid (∀ w' a cap, Ext w w' → IntsAt w' a [20, 19] → Calls Tryd.prog 35 #[.pointer (some ⟨gb, 0, none⟩), .slice a 2 cap] w' (RetS w' (brk (c.top == 20 || c.top == 19) c.txt))) := fun w' a cap hx hl => by
        rw [← contains_two]
        exact wrap_c c gb a cap [20, 19] w' (top_cell (HU.out.ext hx)) hl (by decide) (by omega) (fun w'' hx2 => ih2.out w'' (hx.trans hx2))
      have HF : Hid ((Kt.two 19 b c).txt = brk (b.top == 20) b.txt ++ ⟨#[59]⟩ ++ brk (c.top == 20 || c.top == 19) c.txt) := rfl
      have hbs := brk_size (b.top == 20) b.txt
      have hbs2 := brk_size (c.top == 20 || c.top == 19) c.txt
      generalize brk (b.top == 20) b.txt = s at *
      generalize brk (c.top == 20 || c.top == 19) c.txt = t at *
      have hadd : ∀ W : World, (Op.stringOp .add s ⟨#[59]⟩).run Tryd.prog W = .ok (.string (s ++ ⟨#[59]⟩)) W := fun W => run_string_add_sum (P := Tryd.prog) W _ _ (by rw [sz1]; omega)
      have hadd2 : ∀ W : World, (Op.stringOp .add (s ++ ⟨#[59]⟩) t).run Tryd.prog W = .ok (.string (s ++ ⟨#[59]⟩ ++ t)) W := fun W => run_string_add_sum (P := Tryd.prog) W _ _ (by rw [ByteArray.size_append, sz1]; omega)
      have hact : inB 19 16 18 = false := rfl
      clear hg hn hta htb hlen hsz hsz2 hbs hbs2 ih ih2
      go_enter Tryd.func22, Tryd.ntmps22
      go_wp2_with fail
      refine (isActT_c _ _).mono ?_
      rw [hact]
      rintro e w1 ⟨rfl, rfl⟩
      go_wp2
      go_region_held3 (fun w' => w'.cell? ⟨g, 1, none⟩ = some (.slice (some ⟨h, 0, none⟩) 2 cc) ∧ w'.cell? ⟨h, 0, none⟩ = some (.pointer (some ⟨ga, 0, none⟩)) ∧ w'.cell? ⟨h, 1, none⟩ = some (.pointer (some ⟨gb, 0, none⟩)))
        (first
          | go_keep
          | (have E := Ext.trans (show Ext w _ by (repeat (first | exact Ext.refl _ | assumption | refine Ext.alloc ?_ _ | refine Ext.drewN ?_ _ | refine Ext.drew ?_))) yk; exact ⟨E.cell' C1.out zg, E.cell' C2.out zh, E.cell' C3.out zh⟩)
          | (have E := Ext.trans (Ext.trans (show Ext w _ by (repeat (first | exact Ext.refl _ | assumption | refine Ext.alloc ?_ _ | refine Ext.drewN ?_ _ | refine Ext.drew ?_))) yk) (Ext.trans (by (repeat (first | exact Ext.refl _ | assumption | refine Ext.alloc ?_ _ | refine Ext.drewN ?_ _ | refine Ext.drew ?_))) yl); exact ⟨E.cell' C1.out zg, E.cell' C2.out zh, E.cell' C3.out zh⟩))
        ((first
          | (go_at_call 35; have _t := yk; refine (CX.out _ _ _ (Ext.trans (Ext.trans (show Ext w _ by (repeat (first | exact Ext.refl _ | assumption | refine Ext.alloc ?_ _ | refine Ext.drewN ?_ _ | refine Ext.drew ?_))) yk) (by (repeat (first | exact Ext.refl _ | assumption | refine Ext.alloc ?_ _ | refine Ext.drewN ?_ _ | refine Ext.drew ?_)))) (two_of (by first | (simp [go_sem]; done) | exact yk.cell' (by simp [go_sem]) (by first | (simp; done) | (simp; omega))) (by first | (simp [go_sem]; done) | exact yk.cell' (by simp [go_sem]) (by first | (simp; done) | (simp; omega))))).mono ?_; rintro e wl ⟨rfl, yl⟩)
          | (go_at_call 35; refine (CW.out _ _ _ (by (repeat (first | exact Ext.refl _ | assumption | refine Ext.alloc ?_ _ | refine Ext.drewN ?_ _ | refine Ext.drew ?_))) (one_of (by simp [go_sem]))).mono ?_; rintro e wk ⟨rfl, yk⟩)))
      all_goals
        have HX := Lib.hid (Ext.trans (Ext.trans (show Ext w _ by (repeat (first | exact Ext.refl _ | assumption | refine Ext.alloc ?_ _ | refine Ext.drewN ?_ _ | refine Ext.drew ?_))) yk) (Ext.trans (by (repeat (first | exact Ext.refl _ | assumption | refine Ext.alloc ?_ _ | refine Ext.drewN ?_ _ | refine Ext.drew ?_))) yl))
        clear yk yl
        go_wp2
        go_ret
        exact ⟨by rw [HF.out]; rfl, HX.out⟩
    · have CX : Hid (∀ w' a cap, Ext w w' → IntsAt w' a [20] → Calls Tryd.prog 35 #[.pointer (some ⟨gb, 0, none⟩), .slice a 1 cap] w' (RetS w' (brk (c.top == 20) c.txt))) := fun w' a cap hx hl => by
        rw [← contains_one]
        exact wrap_c c gb a cap [20] w' (top_cell (HU.out.ext hx)) hl (by decide) (by omega) (fun w'' hx2 => ih2.out w'' (hx.trans hx2))
      have HF : Hid ((Kt.two 20 b c).txt = b.txt ++ ⟨#[43]⟩ ++ brk (c.top == 20) c.txt) := rfl
      have hbs2 := brk_size (c.top == 20) c.txt
      generalize b.txt = s at *
      generalize brk (c.top == 20) c.txt = t at *
      have hadd : ∀ W : World, (Op.stringOp .add s ⟨#[43]⟩).run Tryd.prog W = .ok (.string (s ++ ⟨#[43]⟩)) W := fun W => run_string_add_sum (P := Tryd.prog) W _ _ (by rw [sz1]; omega)
      have hadd2 : ∀ W : World, (Op.stringOp .add (s ++ ⟨#[43]⟩) t).run Tryd.prog W = .ok (.string (s ++ ⟨#[43]⟩ ++ t)) W := fun W => run_string_add_sum (P := Tryd.prog) W _ _ (by rw [ByteArray.size_append, sz1]; omega)
      have hact : inB 20 16 18 = false := rfl
      clear hg hn hta htb hlen hsz hsz2 hbs2 ih2
      go_enter Tryd.func22, Tryd.ntmps22
      go_wp2_with fail
      refine (isActT_c _ _).mono ?_
      rw [hact]
      rintro e w1 ⟨rfl, rfl⟩
      go_wp2
      go_region_held3 (fun w' => w'.cell? ⟨g, 1, none⟩ = some (.slice (some ⟨h, 0, none⟩) 2 cc) ∧ w'.cell? ⟨h, 0, none⟩ = some (.pointer (some ⟨ga, 0, none⟩)) ∧ w'.cell? ⟨h, 1, none⟩ = some (.pointer (some ⟨gb, 0, none⟩)))
        (first
          | go_keep
          | (have E := Ext.trans (show Ext w _ by (repeat (first | exact Ext.refl _ | assumption | refine Ext.alloc ?_ _ | refine Ext.drewN ?_ _ | refine Ext.drew ?_))) yk; exact ⟨E.cell' C1.out zg, E.cell' C2.out zh, E.cell' C3.out zh⟩)
          | (have E := Ext.trans (Ext.trans (show Ext w _ by (repeat (first | exact Ext.refl _ | assumption | refine Ext.alloc ?_ _ | refine Ext.drewN ?_ _ | refine Ext.drew ?_))) yk) (Ext.trans (by (repeat (first | exact Ext.refl _ | assumption | refine Ext.alloc ?_ _ | refine Ext.drewN ?_ _ | refine Ext.drew ?_))) yl); exact ⟨E.cell' C1.out zg, E.cell' C2.out zh, E.cell' C3.out zh⟩))
        ((first
          | (go_at_call 35; have _t := yk; refine (CX.out _ _ _ (Ext.trans (Ext.trans (show Ext w _ by (repeat (first | exact Ext.refl _ | assumption | refine Ext.alloc ?_ _ | refine Ext.drewN ?_ _ | refine Ext.drew ?_))) yk) (by (repeat (first | exact Ext.refl _ | assumption | refine Ext.alloc ?_ _ | refine Ext.drewN ?_ _ | refine Ext.drew ?_)))) (one_of (by first | (simp [go_sem]; done) | exact yk.cell' (by simp [go_sem]) (by first | (simp; done) | (simp; omega))))).mono ?_; rintro e wl ⟨rfl, yl⟩)
          | (go_at_call 22; refine (ih.out _ (by (repeat (first | exact Ext.refl _ | assumption | refine Ext.alloc ?_ _ | refine Ext.drewN ?_ _ | refine Ext.drew ?_)))).mono ?_; rintro e wk ⟨rfl, yk⟩)))
      all_goals
        have HX := Lib.hid (Ext.trans (Ext.trans (show Ext w _ by (repeat (first | exact Ext.refl _ | assumption | refine Ext.alloc ?_ _ | refine Ext.drewN ?_ _ | refine Ext.drew ?_))) yk) (Ext.trans (by (repeat (first | exact Ext.refl _ | assumption | refine Ext.alloc ?_ _ | refine Ext.drewN ?_ _ | refine Ext.drew ?_))) yl))
        clear yk yl
        go_wp2
        go_ret
        exact ⟨by rw [HF.out]; rfl, HX.out⟩
end Go.Proofs.YtcjnihhinnedkaaDoor
