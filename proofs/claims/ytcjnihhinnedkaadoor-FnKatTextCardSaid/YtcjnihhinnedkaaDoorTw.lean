/- Contracts: the text of an expression, in the reference. -/
import Derived.Test.YtcjnihhinnedkaaDoorTx
namespace Go.Kt
/-- Whether an expression stands in brackets where so much strength is asked. -/
def Kt.br (t : Kt) (k : Nat) : Bool := (t.top == 20 && decide (1 < k)) || (t.top == 19 && decide (2 < k))
theorem Kt.br_1 (t : Kt) : t.br 1 = false := by simp [Kt.br]
theorem Kt.br_2 (t : Kt) : t.br 2 = (t.top == 20) := by simp [Kt.br]
theorem Kt.br_3 (t : Kt) : t.br 3 = (t.top == 20 || t.top == 19) := by simp [Kt.br]
theorem Kt.br_3' (t : Kt) : t.br 3 = (t.top == 19 || t.top == 20) := by rw [Kt.br_3, Bool.or_comm]
theorem Kt.br_0 (t : Kt) : t.br 0 = false := by simp [Kt.br]
end Go.Kt
namespace Go.Proofs.YtcjnihhinnedkaaDoor
set_option linter.unusedVariables false
open Go.RowKit Go.Kt

theorem halves_s (b off cap : Nat) (x : Int) (a c : Kt) (hc : c.Good) (w : World) (hl : IntsAt w (some ⟨b, off, none⟩) (Kt.two x a c).words) (hcap : (Kt.two x a c).words.length ≤ cap) (h40 : (Kt.two x a c).words.length ≤ 4194304) :
    Calls Tryd.prog 34 #[.slice (some ⟨b, off, none⟩) (a.words.length + c.words.length + 1) cap] w fun e w'' => e = .returned (.tuple #[.slice (some ⟨b, off, none⟩) a.words.length cap, .slice (some ⟨b, off + a.words.length, none⟩) c.words.length (cap - a.words.length)]) ∧ w'' = w.drew := by
  have hlen : (Kt.two x a c).words.length = a.words.length + c.words.length + 1 := by simp [Kt.words]; omega
  rw [← hlen]
  exact l2Halves_c b off cap (Kt.two x a c).words c a.words.length w hl hc (SegK.right (xs := a.words) (SegK.left (xs := a.words ++ c.words) (ys := [x]) (fun i _ => by rw [Nat.zero_add]; rfl)) |> fun h => by rwa [Nat.zero_add] at h) (by rw [hlen]) hcap h40
set_option maxRecDepth 100000 in
set_option maxHeartbeats 4000000 in
theorem l2Text_c : ∀ (t : Kt), t.Good → ∀ (b off cb k : Nat) (w : World), k ≤ 3 → IntsAt w (some ⟨b, off, none⟩) t.words → t.words.length ≤ cb → t.words.length ≤ 40 →
      Calls Tryd.prog 20 #[.slice (some ⟨b, off, none⟩) t.words.length cb, .int .i64 k] w (RetS w (brk (t.br k) t.txt))
  | .leaf x, hg, b, off, cb, k, w, hk, hl, hcb, h40 => by
    have hg : 0 ≤ x ∧ x ≤ 18 := hg
    obtain ⟨hc, zb⟩ := IntsAt.at_ (xs := []) (ys := []) hl
    have hlen : (Kt.leaf x).words.length = 1 := rfl
    have hbr : (Kt.leaf x).br k = false := by
      have e1 : ((Kt.leaf x).top == 19) = false := by simp [Kt.top]; omega
      have e2 : ((Kt.leaf x).top == 20) = false := by simp [Kt.top]; omega
      simp [Kt.br, e1, e2]
    rw [hbr, hlen]
    show Calls _ _ _ _ (RetS w (Kt.leaf x).txt)
    replace hc : w.cell? ⟨b, off, none⟩ = some (.int .i64 x) := hc
    rw [hlen] at hcb
    have hcb' : (1 : Int) ≤ cb := by omega
    clear hlen hbr h40 hl
    by_cases h15 : x ≤ 15
    · obtain ⟨X, rfl⟩ := Int.eq_ofNat_of_zero_le hg.1
      have HF : Hid ((Kt.leaf (X : Int)).txt = testS X) := by unfold Hid; simp only [Kt.txt]; rw [if_pos h15]; rfl
      have CT : Hid (∀ w' : World, Calls Tryd.prog 33 #[.int .i64 X] w' (RetS w' (testS X))) := fun w' => sTestText_c X (by omega) w'
      generalize testS X = s at *
      clear hg
      go_enter Tryd.func20, Tryd.ntmps20
      go_wp2_with (go_at_call 33; refine (CT.out _).mono ?_; rintro e w1 ⟨rfl, hx⟩)
      go_ret
      exact ⟨by rw [HF.out]; rfl, hx⟩
    · have HF : Hid ((Kt.leaf x).txt = letterS x) := by unfold Hid; simp only [Kt.txt]; rw [if_neg h15]
      rcases (show x = 16 ∨ x = 17 ∨ x = 18 by omega) with rfl | rfl | rfl
      · have hcv : (convert 27 9 (.slice (some ⟨w.heap.size, 0, none⟩) 1 1)).run Tryd.prog (w.alloc (.cells #[.int .u8 97] 5)) = .ok (.string ⟨#[97]⟩) (w.alloc (.cells #[.int .u8 97] 5)) := by
          exact run_convert_bytes_back _ _ _ 5 ⟨w.heap.size, 0, none⟩ 1 [97] Tryd.underlying27 Tryd.underlying5 Tryd.underlying9 (fun j hj => by
            obtain rfl : j = 0 := by simp at hj; omega
            exact World.cell?_alloc_mark w _ _ _ 0)
        clear hg h15
        go_enter Tryd.func20, Tryd.ntmps20
        go_wp2
        go_ret
        exact ⟨by rw [HF.out]; rfl, by (repeat (first | exact Ext.refl _ | assumption | refine Ext.alloc ?_ _ | refine Ext.drewN ?_ _ | refine Ext.drew ?_))⟩
      · have hcv : (convert 27 9 (.slice (some ⟨w.heap.size, 0, none⟩) 1 1)).run Tryd.prog (w.alloc (.cells #[.int .u8 98] 5)) = .ok (.string ⟨#[98]⟩) (w.alloc (.cells #[.int .u8 98] 5)) := by
          exact run_convert_bytes_back _ _ _ 5 ⟨w.heap.size, 0, none⟩ 1 [98] Tryd.underlying27 Tryd.underlying5 Tryd.underlying9 (fun j hj => by
            obtain rfl : j = 0 := by simp at hj; omega
            exact World.cell?_alloc_mark w _ _ _ 0)
        clear hg h15
        go_enter Tryd.func20, Tryd.ntmps20
        go_wp2
        go_ret
        exact ⟨by rw [HF.out]; rfl, by (repeat (first | exact Ext.refl _ | assumption | refine Ext.alloc ?_ _ | refine Ext.drewN ?_ _ | refine Ext.drew ?_))⟩
      · have hcv : (convert 27 9 (.slice (some ⟨w.heap.size, 0, none⟩) 1 1)).run Tryd.prog (w.alloc (.cells #[.int .u8 99] 5)) = .ok (.string ⟨#[99]⟩) (w.alloc (.cells #[.int .u8 99] 5)) := by
          exact run_convert_bytes_back _ _ _ 5 ⟨w.heap.size, 0, none⟩ 1 [99] Tryd.underlying27 Tryd.underlying5 Tryd.underlying9 (fun j hj => by
            obtain rfl : j = 0 := by simp at hj; omega
            exact World.cell?_alloc_mark w _ _ _ 0)
        clear hg h15
        go_enter Tryd.func20, Tryd.ntmps20
        go_wp2
        go_ret
        exact ⟨by rw [HF.out]; rfl, by (repeat (first | exact Ext.refl _ | assumption | refine Ext.alloc ?_ _ | refine Ext.drewN ?_ _ | refine Ext.drew ?_))⟩
  | .star c, hg, b, off, cb, k, w, hk, hl, hcb, h40 => by
    obtain ⟨hc, zb⟩ := IntsAt.at_ (xs := c.words) (ys := []) hl
    have hla := Lib.hid (IntsAt.left (xs := c.words) hl)
    have hlen : (Kt.star c).words.length = c.words.length + 1 := by simp [Kt.words]
    have hbr : (Kt.star c).br k = false := by simp [Kt.br, Kt.top]
    have hsz := c.txt_size
    have hbs := brk_size (c.top == 19 || c.top == 20) c.txt
    rw [hbr]
    show Calls _ _ _ _ (RetS w (Kt.star c).txt)
    rw [hlen] at hcb h40 ⊢
    obtain ⟨q, hq⟩ : ∃ q, q = c.words.length := ⟨_, rfl⟩
    have ih : Hid (∀ w', Ext w w' → Calls Tryd.prog 20 #[.slice (some ⟨b, off, none⟩) q cb, .int .i64 3] w' (RetS w' (brk (c.top == 19 || c.top == 20) c.txt))) := fun w' hx => by
      rw [hq, ← Kt.br_3']; exact l2Text_c c hg b off cb 3 w' (by decide) (hla.out.ext hx) (by omega) (by omega)
    have HF : Hid ((Kt.star c).txt = brk (c.top == 19 || c.top == 20) c.txt ++ ⟨#[42]⟩) := rfl
    rw [← hq] at hc hcb h40 hsz ⊢
    generalize brk (c.top == 19 || c.top == 20) c.txt = s at *
    have hadd : ∀ W : World, (Op.stringOp .add s ⟨#[42]⟩).run Tryd.prog W = .ok (.string (s ++ ⟨#[42]⟩)) W := fun W => run_string_add_sum (P := Tryd.prog) W _ _ (by rw [sz1]; omega)
    clear hg hl hla hlen hq hsz hbs hbr
    have hw1 : IntKind.i64.wrap ((q : Int) + 1 - 1) = (q : Int) := by rw [IntWalk.i64_in _ (by omega)]; omega
    have hqc : (q : Int) ≤ cb := by omega
    go_enter Tryd.func20, Tryd.ntmps20
    go_wp2_with (go_at_call 20; refine (ih.out _ (by (repeat (first | exact Ext.refl _ | assumption | refine Ext.alloc ?_ _ | refine Ext.drewN ?_ _ | refine Ext.drew ?_)))).mono ?_; rintro e w1 ⟨rfl, hx⟩)
    go_ret
    exact ⟨by rw [HF.out]; rfl, hx⟩
  | .two y c d, hg, b, off, cb, k, w, hk, hl, hcb, h40 => by
    obtain ⟨hc, zb⟩ := IntsAt.at_ (xs := c.words ++ d.words) (ys := []) hl
    have hla := Lib.hid (IntsAt.left (xs := c.words) (IntsAt.left (xs := c.words ++ d.words) hl))
    have hlc := Lib.hid (IntsAt.right (xs := c.words) (IntsAt.left (xs := c.words ++ d.words) hl))
    have hlen : (Kt.two y c d).words.length = c.words.length + d.words.length + 1 := by simp [Kt.words]; omega
    have hH : Hid (∀ w', Ext w w' → Calls Tryd.prog 34 #[.slice (some ⟨b, off, none⟩) (c.words.length + d.words.length + 1) cb] w' fun e w'' => e = .returned (.tuple #[.slice (some ⟨b, off, none⟩) c.words.length cb, .slice (some ⟨b, off + c.words.length, none⟩) d.words.length (cb - c.words.length)]) ∧ w'' = w'.drew) := fun w' hx =>
      halves_s b off cb y c d hg.2.2 w' (hl.ext hx) hcb (by omega)
    have hsz := (Kt.two y c d).txt_size
    have hsz1 := c.txt_size
    have hsz2 := d.txt_size
    rw [hlen] at hcb h40 hsz ⊢
    rw [List.length_append] at hc
    obtain ⟨q, hq⟩ : ∃ q, q = c.words.length := ⟨_, rfl⟩
    obtain ⟨r, hr⟩ : ∃ r, r = d.words.length := ⟨_, rfl⟩
    have ih : Hid (∀ w' j, j ≤ 3 → Ext w w' → Calls Tryd.prog 20 #[.slice (some ⟨b, off, none⟩) q cb, .int .i64 (j : Nat)] w' (RetS w' (brk (c.br j) c.txt))) := fun w' j hj hx => by
      rw [hq]; exact l2Text_c c hg.2.1 b off cb j w' hj (hla.out.ext hx) (by omega) (by omega)
    have ih2 : Hid (∀ w' j, j ≤ 3 → Ext w w' → Calls Tryd.prog 20 #[.slice (some ⟨b, off + q, none⟩) r (cb - q), .int .i64 (j : Nat)] w' (RetS w' (brk (d.br j) d.txt))) := fun w' j hj hx => by
      rw [hq, hr]; exact l2Text_c d hg.2.2 b (off + c.words.length) (cb - c.words.length) j w' hj (hlc.out.ext hx) (by omega) (by omega)
    have hy : y = 19 ∨ y = 20 := hg.1
    rw [← hq, ← hr] at hc hcb h40 hH hsz ⊢
    have hw1 : IntKind.i64.wrap ((q : Int) + r + 1 - 1) = (q : Int) + r := by rw [IntWalk.i64_in _ (by omega)]; omega
    have hqc : (q : Int) + r ≤ cb := by omega
    have hrn : ((q : Int) + r).toNat = q + r := by omega
    rcases hy with rfl | rfl
    · have HF : Hid ((Kt.two 19 c d).txt = brk (c.br 2) c.txt ++ ⟨#[59]⟩ ++ brk (d.br 3) d.txt) := by unfold Hid; rw [Kt.br_2, Kt.br_3]; rfl
      have HB : Hid ((Kt.two 19 c d).br k = decide (2 < k)) := by unfold Hid; simp [Kt.br, Kt.top]
      have ia : Hid (∀ w', Ext w w' → Calls Tryd.prog 20 #[.slice (some ⟨b, off, none⟩) q cb, .int .i64 2] w' (RetS w' (brk (c.br 2) c.txt))) := fun w' hx => ih.out w' 2 (by decide) hx
      have ib : Hid (∀ w', Ext w w' → Calls Tryd.prog 20 #[.slice (some ⟨b, off + q, none⟩) r (cb - q), .int .i64 3] w' (RetS w' (brk (d.br 3) d.txt))) := fun w' hx => ih2.out w' 3 (by decide) hx
      have hbs := brk_size (c.br 2) c.txt
      have hbs2 := brk_size (d.br 3) d.txt
      generalize brk (c.br 2) c.txt = s at *
      generalize brk (d.br 3) d.txt = t at *
      have hadd : ∀ W : World, (Op.stringOp .add s ⟨#[59]⟩).run Tryd.prog W = .ok (.string (s ++ ⟨#[59]⟩)) W := fun W => run_string_add_sum (P := Tryd.prog) W _ _ (by rw [sz1]; omega)
      have hadd2 : ∀ W : World, (Op.stringOp .add (s ++ ⟨#[59]⟩) t).run Tryd.prog W = .ok (.string (s ++ ⟨#[59]⟩ ++ t)) W := fun W => run_string_add_sum (P := Tryd.prog) W _ _ (by rw [ByteArray.size_append, sz1]; omega)
      rw [HF.out] at hsz ⊢
      rw [HB.out]
      generalize s ++ ⟨#[59]⟩ ++ t = u at *
      have hadd3 : ∀ W : World, (Op.stringOp .add ⟨#[40]⟩ u).run Tryd.prog W = .ok (.string (⟨#[40]⟩ ++ u)) W := fun W => run_string_add_sum (P := Tryd.prog) W _ _ (by rw [sz1]; omega)
      have hadd4 : ∀ W : World, (Op.stringOp .add (⟨#[40]⟩ ++ u) ⟨#[41]⟩).run Tryd.prog W = .ok (.string (⟨#[40]⟩ ++ u ++ ⟨#[41]⟩)) W := fun W => run_string_add_sum (P := Tryd.prog) W _ _ (by rw [ByteArray.size_append, sz1, sz1]; omega)
      clear hg hl hla hlc hlen hq hr hsz hsz1 hsz2 hbs hbs2 ih ih2 HF HB
      by_cases h2 : 2 < k
      · rw [decide_eq_true h2]
        have h2' : (2 : Int) < k := by omega
        clear h2
        go_enter Tryd.func20, Tryd.ntmps20
        go_wp2_with (first
          | (go_at_call 34; refine (hH.out _ (by (repeat (first | exact Ext.refl _ | assumption | refine Ext.alloc ?_ _ | refine Ext.drewN ?_ _ | refine Ext.drew ?_)))).mono ?_; rintro e w1 ⟨rfl, rfl⟩)
          | (go_at_call 20; have _t := yk; refine (ib.out _ (Ext.trans (show Ext w _ by (repeat (first | exact Ext.refl _ | assumption | refine Ext.alloc ?_ _ | refine Ext.drewN ?_ _ | refine Ext.drew ?_))) yk)).mono ?_; rintro e wl ⟨rfl, yl⟩)
          | (go_at_call 20; refine (ia.out _ (by (repeat (first | exact Ext.refl _ | assumption | refine Ext.alloc ?_ _ | refine Ext.drewN ?_ _ | refine Ext.drew ?_)))).mono ?_; rintro e wk ⟨rfl, yk⟩))
        go_ret
        exact ⟨rfl, Ext.trans (Ext.trans (show Ext w _ by (repeat (first | exact Ext.refl _ | assumption | refine Ext.alloc ?_ _ | refine Ext.drewN ?_ _ | refine Ext.drew ?_))) yk) yl⟩
      · rw [decide_eq_false h2]
        have h2' : (k : Int) ≤ 2 := by omega
        clear h2
        go_enter Tryd.func20, Tryd.ntmps20
        go_wp2_with (first
          | (go_at_call 34; refine (hH.out _ (by (repeat (first | exact Ext.refl _ | assumption | refine Ext.alloc ?_ _ | refine Ext.drewN ?_ _ | refine Ext.drew ?_)))).mono ?_; rintro e w1 ⟨rfl, rfl⟩)
          | (go_at_call 20; have _t := yk; refine (ib.out _ (Ext.trans (show Ext w _ by (repeat (first | exact Ext.refl _ | assumption | refine Ext.alloc ?_ _ | refine Ext.drewN ?_ _ | refine Ext.drew ?_))) yk)).mono ?_; rintro e wl ⟨rfl, yl⟩)
          | (go_at_call 20; refine (ia.out _ (by (repeat (first | exact Ext.refl _ | assumption | refine Ext.alloc ?_ _ | refine Ext.drewN ?_ _ | refine Ext.drew ?_)))).mono ?_; rintro e wk ⟨rfl, yk⟩))
        go_ret
        exact ⟨rfl, Ext.trans (Ext.trans (show Ext w _ by (repeat (first | exact Ext.refl _ | assumption | refine Ext.alloc ?_ _ | refine Ext.drewN ?_ _ | refine Ext.drew ?_))) yk) yl⟩
    · have HF : Hid ((Kt.two 20 c d).txt = brk (c.br 1) c.txt ++ ⟨#[43]⟩ ++ brk (d.br 2) d.txt) := by unfold Hid; rw [Kt.br_1, Kt.br_2]; rfl
      have HB : Hid ((Kt.two 20 c d).br k = decide (1 < k)) := by unfold Hid; simp [Kt.br, Kt.top]
      have ia : Hid (∀ w', Ext w w' → Calls Tryd.prog 20 #[.slice (some ⟨b, off, none⟩) q cb, .int .i64 1] w' (RetS w' (brk (c.br 1) c.txt))) := fun w' hx => ih.out w' 1 (by decide) hx
      have ib : Hid (∀ w', Ext w w' → Calls Tryd.prog 20 #[.slice (some ⟨b, off + q, none⟩) r (cb - q), .int .i64 2] w' (RetS w' (brk (d.br 2) d.txt))) := fun w' hx => ih2.out w' 2 (by decide) hx
      have hbs := brk_size (c.br 1) c.txt
      have hbs2 := brk_size (d.br 2) d.txt
      generalize brk (c.br 1) c.txt = s at *
      generalize brk (d.br 2) d.txt = t at *
      have hadd : ∀ W : World, (Op.stringOp .add s ⟨#[43]⟩).run Tryd.prog W = .ok (.string (s ++ ⟨#[43]⟩)) W := fun W => run_string_add_sum (P := Tryd.prog) W _ _ (by rw [sz1]; omega)
      have hadd2 : ∀ W : World, (Op.stringOp .add (s ++ ⟨#[43]⟩) t).run Tryd.prog W = .ok (.string (s ++ ⟨#[43]⟩ ++ t)) W := fun W => run_string_add_sum (P := Tryd.prog) W _ _ (by rw [ByteArray.size_append, sz1]; omega)
      rw [HF.out] at hsz ⊢
      rw [HB.out]
      generalize s ++ ⟨#[43]⟩ ++ t = u at *
      have hadd3 : ∀ W : World, (Op.stringOp .add ⟨#[40]⟩ u).run Tryd.prog W = .ok (.string (⟨#[40]⟩ ++ u)) W := fun W => run_string_add_sum (P := Tryd.prog) W _ _ (by rw [sz1]; omega)
      have hadd4 : ∀ W : World, (Op.stringOp .add (⟨#[40]⟩ ++ u) ⟨#[41]⟩).run Tryd.prog W = .ok (.string (⟨#[40]⟩ ++ u ++ ⟨#[41]⟩)) W := fun W => run_string_add_sum (P := Tryd.prog) W _ _ (by rw [ByteArray.size_append, sz1, sz1]; omega)
      clear hg hl hla hlc hlen hq hr hsz hsz1 hsz2 hbs hbs2 ih ih2 HF HB
      by_cases h2 : 1 < k
      · rw [decide_eq_true h2]
        have h2' : (1 : Int) < k := by omega
        clear h2
        go_enter Tryd.func20, Tryd.ntmps20
        go_wp2_with (first
          | (go_at_call 34; refine (hH.out _ (by (repeat (first | exact Ext.refl _ | assumption | refine Ext.alloc ?_ _ | refine Ext.drewN ?_ _ | refine Ext.drew ?_)))).mono ?_; rintro e w1 ⟨rfl, rfl⟩)
          | (go_at_call 20; have _t := yk; refine (ib.out _ (Ext.trans (show Ext w _ by (repeat (first | exact Ext.refl _ | assumption | refine Ext.alloc ?_ _ | refine Ext.drewN ?_ _ | refine Ext.drew ?_))) yk)).mono ?_; rintro e wl ⟨rfl, yl⟩)
          | (go_at_call 20; refine (ia.out _ (by (repeat (first | exact Ext.refl _ | assumption | refine Ext.alloc ?_ _ | refine Ext.drewN ?_ _ | refine Ext.drew ?_)))).mono ?_; rintro e wk ⟨rfl, yk⟩))
        go_ret
        exact ⟨rfl, Ext.trans (Ext.trans (show Ext w _ by (repeat (first | exact Ext.refl _ | assumption | refine Ext.alloc ?_ _ | refine Ext.drewN ?_ _ | refine Ext.drew ?_))) yk) yl⟩
      · rw [decide_eq_false h2]
        have h2' : (k : Int) ≤ 1 := by omega
        clear h2
        go_enter Tryd.func20, Tryd.ntmps20
        go_wp2_with (first
          | (go_at_call 34; refine (hH.out _ (by (repeat (first | exact Ext.refl _ | assumption | refine Ext.alloc ?_ _ | refine Ext.drewN ?_ _ | refine Ext.drew ?_)))).mono ?_; rintro e w1 ⟨rfl, rfl⟩)
          | (go_at_call 20; have _t := yk; refine (ib.out _ (Ext.trans (show Ext w _ by (repeat (first | exact Ext.refl _ | assumption | refine Ext.alloc ?_ _ | refine Ext.drewN ?_ _ | refine Ext.drew ?_))) yk)).mono ?_; rintro e wl ⟨rfl, yl⟩)
          | (go_at_call 20; refine (ia.out _ (by (repeat (first | exact Ext.refl _ | assumption | refine Ext.alloc ?_ _ | refine Ext.drewN ?_ _ | refine Ext.drew ?_)))).mono ?_; rintro e wk ⟨rfl, yk⟩))
        go_ret
        exact ⟨rfl, Ext.trans (Ext.trans (show Ext w _ by (repeat (first | exact Ext.refl _ | assumption | refine Ext.alloc ?_ _ | refine Ext.drewN ?_ _ | refine Ext.drew ?_))) yk) yl⟩
end Go.Proofs.YtcjnihhinnedkaaDoor
