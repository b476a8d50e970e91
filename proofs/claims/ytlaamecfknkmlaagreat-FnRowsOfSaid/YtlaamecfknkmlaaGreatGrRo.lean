/- Merged texts: contracts and plain lemmas (Ro). -/
import Derived.Test.YtlaamecfknkmlaaGreatGrIr
import Derived.Test.YtlaamecfknkmlaaGreatGr2
/- Contracts: the program's rows of an expression in a model. -/
namespace Go.Proofs.YtlaamecfknkmlaaGreat
set_option linter.unusedVariables false
open Go.RowKit Go.Kt

theorem rvB_relK {s : Nat} {l : List Int} (h : rvB s l = true) : Rel s l := by
  have := rvB_len h
  have h2 := rvB_sets h
  exact ⟨by omega, by omega, h2.1, fun i hi => h2.2.1 i (by omega)⟩
theorem thenF_rel {s : Nat} {a b : List Int} (h1 : 1 ≤ s) (h5 : s ≤ 5) (ha : Rel s a) (hb : Rel s b) : thenF s a b = thenTo a b a.length := by
  unfold thenF; rw [rvB_rel h1 h5 ha, rvB_rel h1 h5 hb]; rfl
theorem plusF_rel {s : Nat} {a b : List Int} (h1 : 1 ≤ s) (h5 : s ≤ 5) (ha : Rel s a) (hb : Rel s b) : plusF s a b = plusTo a b a.length := by
  unfold plusF; rw [rvB_rel h1 h5 ha, rvB_rel h1 h5 hb]; rfl
theorem starF_rel {s : Nat} {a : List Int} (h1 : 1 ≤ s) (h5 : s ≤ 5) (ha : Rel s a) : starF s a = starTo a a.length := by
  unfold starF; rw [rvB_rel h1 h5 ha]; rfl
set_option maxRecDepth 100000 in
set_option maxHeartbeats 2000000 in
theorem rows_c (s P Q : Nat) (a : Option Addr) (cap : Nat) (ll : List (List Int)) (h1 : 1 ≤ s) (h5 : s ≤ 5) (hP : P < 4294967296) (hQ : Q < 4294967296) (h3 : Hid (ll.length = 3)) (hrv : Hid (∀ i, i < 3 → rvB s (rowI ll i) = true)) :
    ∀ (t : Kt), t.Good → ∀ (g : Nat) (w : World), RowsAt w a ll → TreeAt w (fun _ => False) t g →
      Calls Tryz.prog 106 #[modelV s P Q a ll.length cap, .pointer (some ⟨g, 0, none⟩)] w (RetI 3 w (t.rows P Q s ll))
  | .leaf x, hg, g, w, hr, ht => by
    have hg : 0 ≤ x ∧ x ≤ 18 := hg
    have c0 : w.cell? ⟨g, 0, none⟩ = some (.int .i64 x) := ht.2.1
    have zg := lt_of_cell c0
    have HR := Lib.hid hr
    have hlen3 : 0 < ll.length := by rw [h3.out]; omega
    clear ht hr
    by_cases h15 : x ≤ 15
    · obtain ⟨X, rfl⟩ := Int.eq_ofNat_of_zero_le hg.1
      have hX : X < 65536 := by omega
      have hact : inB (X : Int) 16 18 = false := by simp [inB]; omega
      have e1 : ((X : Int) == 19) = false := by simp; omega
      have e2 : ((X : Int) == 20) = false := by simp; omega
      have e3 : ((X : Int) == 21) = false := by simp; omega
      have HF : Hid ((Kt.leaf (X : Int)).rows P Q s ll = testL P Q X s s) := by unfold Hid; simp only [Kt.rows]; rw [if_pos h15, Int.toNat_natCast]
      have CT : Hid (∀ w', Calls Tryz.prog 99 #[modelV s P Q a ll.length cap, .int .i64 X] w' (RetI 3 w' (testL P Q X s s))) := fun w' => testRows_c s P Q _ X w' h5 hP hQ hX
      clear hg h15
      go_enter Tryz.func106, Tryz.ntmps106
      go_wp2_with fail
      refine (actB_c _ _).mono ?_
      rw [hact]
      rintro e w1 ⟨rfl, rfl⟩
      go_wp2
      have HK : Hid ((w.alloc (.cells #[.int .i64 s, .int .i64 P, .int .i64 Q, .slice a ll.length cap] 37)).cell? ⟨g, 0, none⟩ = some (.int .i64 X)) := (show Ext w _ by (repeat (first | exact Ext.refl _ | assumption | refine Ext.alloc ?_ _ | refine Ext.drewN ?_ _ | refine Ext.drew ?_))).cell' c0 zg
      have HB := Lib.hid (show BoxM (w.alloc (.cells #[.int .i64 s, .int .i64 P, .int .i64 Q, .slice a ll.length cap] 37)) w.heap.size s P Q (.slice a ll.length cap) by simp [BoxM, go_sem])
      go_region_held3 (fun w' => w'.cell? ⟨w.heap.size, 0, none⟩ = some (.int .i64 s) ∧ w'.cell? ⟨w.heap.size, 1, none⟩ = some (.int .i64 P) ∧ w'.cell? ⟨w.heap.size, 2, none⟩ = some (.int .i64 Q) ∧ w'.cell? ⟨w.heap.size, 3, none⟩ = some (.slice a ll.length cap) ∧ w'.cell? ⟨g, 0, none⟩ = some (.int .i64 X))
        (first
          | go_keep
          | (have hk1 := HB.out.ext (Ext.trans (Ext.drew (Ext.refl _)) yk); have hk2 := (Ext.trans (Ext.drew (Ext.refl _)) yk).cell' HK.out (by simp; omega); exact ⟨hk1.1, hk1.2.1, hk1.2.2.1, hk1.2.2.2, hk2⟩))
        ((go_at_call 99; refine (CT.out _).mono ?_; rintro e wk ⟨vk, rfl, ok, yk⟩))
      have HX := Lib.hid (Ext.trans (show Ext w _ by (repeat (first | exact Ext.refl _ | assumption | refine Ext.alloc ?_ _ | refine Ext.drewN ?_ _ | refine Ext.drew ?_))) yk)
      have O1 := Lib.hid (ok.mono (B' := w.heap.size) (by simp))
      clear ok yk
      go_wp2
      go_ret
      exact ⟨vk, rfl, by rw [HF.out]; exact O1.out, HX.out⟩
    · obtain ⟨y, hy⟩ : ∃ y : Nat, x = 16 + (y : Int) := ⟨(x - 16).toNat, by omega⟩
      have hy3 : y < 3 := by omega
      subst hy
      have hact : inB (16 + (y : Int)) 16 18 = true := by simp [inB]; omega
      have hyl : y < ll.length := by rw [h3.out]; exact hy3
      obtain ⟨b, off, h8, h9⟩ := HR.out
      obtain ⟨rfl, hb⟩ := h8 hlen3
      obtain ⟨ai, ci, kr, hri⟩ := h9 y hyl
      have hrl : Rel s (rowI ll y) := rvB_relK (hrv.out y hy3)
      have hl5 : (rowI ll y).length = s := hrl.len
      have zi : b < w.heap.size := hb
      have HF : Hid ((Kt.leaf (16 + (y : Int))).rows P Q s ll = rowI ll y) := by
        unfold Hid; simp only [Kt.rows]; rw [if_neg h15, show (16 + (y : Int)).toNat - 16 = y by omega]
      have HI := Lib.hid hri
      have CT : Hid (∀ w', Ext w w' → Calls Tryz.prog 135 #[.slice ai (rowI ll y).length ci] w' (RetI 3 w' (rowI ll y))) := fun w' hx => cloneI_c ai ci (rowI ll y) w' (HI.out.ext hx) (by omega) (by omega)
      have hw16 : IntKind.i64.wrap (16 + (y : Int) - 16) = (y : Int) := by rw [IntWalk.i64_in _ (by omega)]; omega
      clear h8 h9 hri hrl hl5 hg h15 HR
      go_enter Tryz.func106, Tryz.ntmps106
      go_wp2_with fail
      refine (actB_c _ _).mono ?_
      rw [hact]
      rintro e w1 ⟨rfl, rfl⟩
      go_wp2
      have HK : Hid ((w.alloc (.cells #[.int .i64 s, .int .i64 P, .int .i64 Q, .slice (some ⟨b, off, none⟩) ll.length cap] 37)).cell? ⟨g, 0, none⟩ = some (.int .i64 (16 + (y : Int)))) := (show Ext w _ by (repeat (first | exact Ext.refl _ | assumption | refine Ext.alloc ?_ _ | refine Ext.drewN ?_ _ | refine Ext.drew ?_))).cell' c0 zg
      have HK2 : Hid ((w.alloc (.cells #[.int .i64 s, .int .i64 P, .int .i64 Q, .slice (some ⟨b, off, none⟩) ll.length cap] 37)).cell? ⟨b, off + y, none⟩ = some (.slice ai (rowI ll y).length ci)) := (show Ext w _ by (repeat (first | exact Ext.refl _ | assumption | refine Ext.alloc ?_ _ | refine Ext.drewN ?_ _ | refine Ext.drew ?_))).cell' kr zi
      have HB := Lib.hid (show BoxM (w.alloc (.cells #[.int .i64 s, .int .i64 P, .int .i64 Q, .slice (some ⟨b, off, none⟩) ll.length cap] 37)) w.heap.size s P Q (.slice (some ⟨b, off, none⟩) ll.length cap) by simp [BoxM, go_sem])
      go_region_held3 (fun w' => w'.cell? ⟨w.heap.size, 0, none⟩ = some (.int .i64 s) ∧ w'.cell? ⟨w.heap.size, 1, none⟩ = some (.int .i64 P) ∧ w'.cell? ⟨w.heap.size, 2, none⟩ = some (.int .i64 Q) ∧ w'.cell? ⟨w.heap.size, 3, none⟩ = some (.slice (some ⟨b, off, none⟩) ll.length cap) ∧ w'.cell? ⟨g, 0, none⟩ = some (.int .i64 (16 + (y : Int))) ∧ w'.cell? ⟨b, off + y, none⟩ = some (.slice ai (rowI ll y).length ci))
        (first
          | go_keep
          | (have E := Ext.trans (Ext.drew (Ext.refl _)) yk; have hk1 := HB.out.ext E; exact ⟨hk1.1, hk1.2.1, hk1.2.2.1, hk1.2.2.2, E.cell' HK.out (by simp; omega), E.cell' HK2.out (by simp; omega)⟩))
        ((go_at_call 135; refine (CT.out _ (by (repeat (first | exact Ext.refl _ | assumption | refine Ext.alloc ?_ _ | refine Ext.drewN ?_ _ | refine Ext.drew ?_)))).mono ?_; rintro e wk ⟨vk, rfl, ok, yk⟩))
      have HX := Lib.hid (Ext.trans (show Ext w _ by (repeat (first | exact Ext.refl _ | assumption | refine Ext.alloc ?_ _ | refine Ext.drewN ?_ _ | refine Ext.drew ?_))) yk)
      have O1 := Lib.hid (ok.mono (B' := w.heap.size) (by simp))
      clear ok yk
      go_wp2
      go_ret
      exact ⟨vk, rfl, by rw [HF.out]; exact O1.out, HX.out⟩
  | .star b, hg, g, w, hr, ht => by
    obtain ⟨-, c0, h, c, ga, c1, -, c2, hta⟩ := ht
    replace c2 : w.cell? ⟨h, 0, none⟩ = some (.pointer (some ⟨ga, 0, none⟩)) := c2
    have zg := lt_of_cell c0
    have zh := lt_of_cell c2
    have HR := Lib.hid hr
    have HT := Lib.hid hta
    have hrel := b.rows_rel P Q s ll (by omega) (fun i hi => rvB_relK (hrv.out i hi)) hg
    have ih : Hid (∀ w', Ext w w' → Calls Tryz.prog 106 #[modelV s P Q a ll.length cap, .pointer (some ⟨ga, 0, none⟩)] w' (RetI 3 w' (b.rows P Q s ll))) := fun w' hx =>
      rows_c s P Q a cap ll h1 h5 hP hQ h3 hrv b hg ga w' (HR.out.ext hx) (HT.out.ext hx)
    have HF : Hid ((Kt.star b).rows P Q s ll = starTo (b.rows P Q s ll) (b.rows P Q s ll).length) := rfl
    have hll := hrel.len
    generalize b.rows P Q s ll = la at *
    have CT : Hid (∀ w' ak ck, IntsAt w' ak la → Calls Tryz.prog 153 #[.int .i64 s, .slice ak la.length ck] w' (RetI 3 w' (starTo la la.length))) := fun w' ak ck hi => by
      rw [← starF_rel h1 h5 hrel]; exact iRowsStar_c s ak ck la w' hi (by omega)
    have hact : inB 21 16 18 = false := rfl
    clear hg hr hta hrel hll
    go_enter Tryz.func106, Tryz.ntmps106
    go_wp2_with fail
    refine (actB_c _ _).mono ?_
    rw [hact]
    rintro e w1 ⟨rfl, rfl⟩
    go_wp2
    have HK : Hid ((w.alloc (.cells #[.int .i64 s, .int .i64 P, .int .i64 Q, .slice a ll.length cap] 37)).cell? ⟨g, 1, none⟩ = some (.slice (some ⟨h, 0, none⟩) 1 c)) := (show Ext w _ by (repeat (first | exact Ext.refl _ | assumption | refine Ext.alloc ?_ _ | refine Ext.drewN ?_ _ | refine Ext.drew ?_))).cell' c1 zg
    have HK2 : Hid ((w.alloc (.cells #[.int .i64 s, .int .i64 P, .int .i64 Q, .slice a ll.length cap] 37)).cell? ⟨h, 0, none⟩ = some (.pointer (some ⟨ga, 0, none⟩))) := (show Ext w _ by (repeat (first | exact Ext.refl _ | assumption | refine Ext.alloc ?_ _ | refine Ext.drewN ?_ _ | refine Ext.drew ?_))).cell' c2 zh
    have HB := Lib.hid (show BoxM (w.alloc (.cells #[.int .i64 s, .int .i64 P, .int .i64 Q, .slice a ll.length cap] 37)) w.heap.size s P Q (.slice a ll.length cap) by simp [BoxM, go_sem])
    go_region_held3 (fun w' => w'.cell? ⟨w.heap.size, 0, none⟩ = some (.int .i64 s) ∧ w'.cell? ⟨w.heap.size, 1, none⟩ = some (.int .i64 P) ∧ w'.cell? ⟨w.heap.size, 2, none⟩ = some (.int .i64 Q) ∧ w'.cell? ⟨w.heap.size, 3, none⟩ = some (.slice a ll.length cap) ∧ w'.cell? ⟨g, 1, none⟩ = some (.slice (some ⟨h, 0, none⟩) 1 c) ∧ w'.cell? ⟨h, 0, none⟩ = some (.pointer (some ⟨ga, 0, none⟩)))
      (first
        | go_keep
        | (have E := Ext.trans (Ext.drew (Ext.refl _)) yk; have hk1 := HB.out.ext E; exact ⟨hk1.1, hk1.2.1, hk1.2.2.1, hk1.2.2.2, E.cell' HK.out (by simp; omega), E.cell' HK2.out (by simp; omega)⟩)
        | (have E := Ext.trans (Ext.trans (Ext.drew (Ext.refl _)) yk) yl; have hk1 := HB.out.ext E; exact ⟨hk1.1, hk1.2.1, hk1.2.2.1, hk1.2.2.2, E.cell' HK.out (by simp; omega), E.cell' HK2.out (by simp; omega)⟩))
      ((first
        | (go_at_call 106; refine (ih.out _ (by (repeat (first | exact Ext.refl _ | assumption | refine Ext.alloc ?_ _ | refine Ext.drewN ?_ _ | refine Ext.drew ?_)))).mono ?_; rintro e wk ⟨vk, rfl, ok, yk⟩; obtain ⟨ak, ck, rfl, ik⟩ := ok.shape)
        | (go_at_call 153; refine (CT.out _ ak ck ik).mono ?_; rintro e wl ⟨vl, rfl, ol, yl⟩)))
    have HX := Lib.hid (Ext.trans (Ext.trans (show Ext w _ by (repeat (first | exact Ext.refl _ | assumption | refine Ext.alloc ?_ _ | refine Ext.drewN ?_ _ | refine Ext.drew ?_))) yk) yl)
    have O1 := Lib.hid (ol.mono (B' := w.heap.size) (by have := yk.size; simp at this; omega))
    clear ok yk ol yl ik
    go_wp2
    go_ret
    exact ⟨vl, rfl, by rw [HF.out]; exact O1.out, HX.out⟩
  | .two x b c, hg, g, w, hr, ht => by
    obtain ⟨-, c0, h, cc, ga, gb, c1, -, c2, c3, hta, htb⟩ := ht
    replace c2 : w.cell? ⟨h, 0, none⟩ = some (.pointer (some ⟨ga, 0, none⟩)) := c2
    replace c3 : w.cell? ⟨h, 1, none⟩ = some (.pointer (some ⟨gb, 0, none⟩)) := c3
    have zg := lt_of_cell c0
    have zh := lt_of_cell c2
    have HR := Lib.hid hr
    have HT := Lib.hid hta
    have HU := Lib.hid htb
    have hrel := b.rows_rel P Q s ll (by omega) (fun i hi => rvB_relK (hrv.out i hi)) hg.2.1
    have hrel2 := c.rows_rel P Q s ll (by omega) (fun i hi => rvB_relK (hrv.out i hi)) hg.2.2
    have ih : Hid (∀ w', Ext w w' → Calls Tryz.prog 106 #[modelV s P Q a ll.length cap, .pointer (some ⟨ga, 0, none⟩)] w' (RetI 3 w' (b.rows P Q s ll))) := fun w' hx =>
      rows_c s P Q a cap ll h1 h5 hP hQ h3 hrv b hg.2.1 ga w' (HR.out.ext hx) (HT.out.ext hx)
    have ih2 : Hid (∀ w', Ext w w' → Calls Tryz.prog 106 #[modelV s P Q a ll.length cap, .pointer (some ⟨gb, 0, none⟩)] w' (RetI 3 w' (c.rows P Q s ll))) := fun w' hx =>
      rows_c s P Q a cap ll h1 h5 hP hQ h3 hrv c hg.2.2 gb w' (HR.out.ext hx) (HU.out.ext hx)
    have HF : Hid ((Kt.two 20 b c).rows P Q s ll = plusTo (b.rows P Q s ll) (c.rows P Q s ll) (b.rows P Q s ll).length) := rfl
    have HF2 : Hid ((Kt.two 19 b c).rows P Q s ll = thenTo (b.rows P Q s ll) (c.rows P Q s ll) (b.rows P Q s ll).length) := rfl
    have hll := hrel.len
    have hll2 := hrel2.len
    have hx : x = 19 ∨ x = 20 := hg.1
    generalize b.rows P Q s ll = la at *
    generalize c.rows P Q s ll = lb at *
    have CP : Hid (∀ w' ak ck al cl, IntsAt w' ak la → IntsAt w' al lb → Calls Tryz.prog 152 #[.int .i64 s, .slice ak la.length ck, .slice al lb.length cl] w' (RetI 3 w' (plusTo la lb la.length))) := fun w' ak ck al cl hi hj => by
      rw [← plusF_rel h1 h5 hrel hrel2]; exact iRowsPlus_c s ak al ck cl la lb w' hi hj (by omega) (by omega)
    have CT : Hid (∀ w' ak ck al cl, IntsAt w' ak la → IntsAt w' al lb → Calls Tryz.prog 100 #[.int .i64 s, .slice ak la.length ck, .slice al lb.length cl] w' (RetI 3 w' (thenTo la lb la.length))) := fun w' ak ck al cl hi hj => by
      rw [← thenF_rel h1 h5 hrel hrel2]; exact iRowsThen_c s ak al ck cl la lb w' hi hj (by omega) (by omega)
    have hact : inB 19 16 18 = false := rfl
    have hact2 : inB 20 16 18 = false := rfl
    clear hg hr hta htb hrel hrel2 hll hll2
    rcases hx with rfl | rfl
    · go_enter Tryz.func106, Tryz.ntmps106
      go_wp2_with fail
      refine (actB_c _ _).mono ?_
      first | rw [hact] | rw [hact2]
      rintro e w1 ⟨rfl, rfl⟩
      go_wp2
      have HK : Hid ((w.alloc (.cells #[.int .i64 s, .int .i64 P, .int .i64 Q, .slice a ll.length cap] 37)).cell? ⟨g, 1, none⟩ = some (.slice (some ⟨h, 0, none⟩) 2 cc)) := (show Ext w _ by (repeat (first | exact Ext.refl _ | assumption | refine Ext.alloc ?_ _ | refine Ext.drewN ?_ _ | refine Ext.drew ?_))).cell' c1 zg
      have HK2 : Hid ((w.alloc (.cells #[.int .i64 s, .int .i64 P, .int .i64 Q, .slice a ll.length cap] 37)).cell? ⟨h, 0, none⟩ = some (.pointer (some ⟨ga, 0, none⟩))) := (show Ext w _ by (repeat (first | exact Ext.refl _ | assumption | refine Ext.alloc ?_ _ | refine Ext.drewN ?_ _ | refine Ext.drew ?_))).cell' c2 zh
      have HK3 : Hid ((w.alloc (.cells #[.int .i64 s, .int .i64 P, .int .i64 Q, .slice a ll.length cap] 37)).cell? ⟨h, 1, none⟩ = some (.pointer (some ⟨gb, 0, none⟩))) := (show Ext w _ by (repeat (first | exact Ext.refl _ | assumption | refine Ext.alloc ?_ _ | refine Ext.drewN ?_ _ | refine Ext.drew ?_))).cell' c3 zh
      have HB := Lib.hid (show BoxM (w.alloc (.cells #[.int .i64 s, .int .i64 P, .int .i64 Q, .slice a ll.length cap] 37)) w.heap.size s P Q (.slice a ll.length cap) by simp [BoxM, go_sem])
      go_region_held3 (fun w' => w'.cell? ⟨w.heap.size, 0, none⟩ = some (.int .i64 s) ∧ w'.cell? ⟨w.heap.size, 1, none⟩ = some (.int .i64 P) ∧ w'.cell? ⟨w.heap.size, 2, none⟩ = some (.int .i64 Q) ∧ w'.cell? ⟨w.heap.size, 3, none⟩ = some (.slice a ll.length cap) ∧ w'.cell? ⟨g, 1, none⟩ = some (.slice (some ⟨h, 0, none⟩) 2 cc) ∧ w'.cell? ⟨h, 0, none⟩ = some (.pointer (some ⟨ga, 0, none⟩)) ∧ w'.cell? ⟨h, 1, none⟩ = some (.pointer (some ⟨gb, 0, none⟩)))
        (first
          | go_keep
          | (have E := Ext.trans (Ext.drew (Ext.refl _)) yk; have hk1 := HB.out.ext E; exact ⟨hk1.1, hk1.2.1, hk1.2.2.1, hk1.2.2.2, E.cell' HK.out (by simp; omega), E.cell' HK2.out (by simp; omega), E.cell' HK3.out (by simp; omega)⟩)
          | (have E := Ext.trans (Ext.trans (Ext.drew (Ext.refl _)) yk) yl; have hk1 := HB.out.ext E; exact ⟨hk1.1, hk1.2.1, hk1.2.2.1, hk1.2.2.2, E.cell' HK.out (by simp; omega), E.cell' HK2.out (by simp; omega), E.cell' HK3.out (by simp; omega)⟩)
          | (have E := Ext.trans (Ext.trans (Ext.trans (Ext.drew (Ext.refl _)) yk) yl) ym; have hk1 := HB.out.ext E; exact ⟨hk1.1, hk1.2.1, hk1.2.2.1, hk1.2.2.2, E.cell' HK.out (by simp; omega), E.cell' HK2.out (by simp; omega), E.cell' HK3.out (by simp; omega)⟩))
        ((first
          | (go_at_call 106; have _t := yk; refine (ih2.out _ (Ext.trans (Ext.trans (show Ext w (World.drew (World.alloc w _)) by (repeat (first | exact Ext.refl _ | assumption | refine Ext.alloc ?_ _ | refine Ext.drewN ?_ _ | refine Ext.drew ?_))) yk) (Ext.refl _))).mono ?_; rintro e wl ⟨vl, rfl, ol, yl⟩; obtain ⟨al, cl, rfl, il⟩ := ol.shape; replace ik := ik.ext yl)
          | (go_at_call 106; refine (ih.out _ (by (repeat (first | exact Ext.refl _ | assumption | refine Ext.alloc ?_ _ | refine Ext.drewN ?_ _ | refine Ext.drew ?_)))).mono ?_; rintro e wk ⟨vk, rfl, ok, yk⟩; obtain ⟨ak, ck, rfl, ik⟩ := ok.shape; have hz := yk.size)
          | (go_at_call 100; refine (CT.out _ ak ck al cl ik il).mono ?_; rintro e wm ⟨vm, rfl, om, ym⟩)))
      have HX := Lib.hid (Ext.trans (Ext.trans (Ext.trans (show Ext w _ by (repeat (first | exact Ext.refl _ | assumption | refine Ext.alloc ?_ _ | refine Ext.drewN ?_ _ | refine Ext.drew ?_))) yk) yl) ym)
      have O1 := Lib.hid (om.mono (B' := w.heap.size) (by have := yl.size; simp at hz; omega))
      clear ok yk ol yl ik il om ym hz
      go_wp2
      go_ret
      exact ⟨vm, rfl, by rw [HF2.out]; exact O1.out, HX.out⟩
    · go_enter Tryz.func106, Tryz.ntmps106
      go_wp2_with fail
      refine (actB_c _ _).mono ?_
      first | rw [hact] | rw [hact2]
      rintro e w1 ⟨rfl, rfl⟩
      go_wp2
      have HK : Hid ((w.alloc (.cells #[.int .i64 s, .int .i64 P, .int .i64 Q, .slice a ll.length cap] 37)).cell? ⟨g, 1, none⟩ = some (.slice (some ⟨h, 0, none⟩) 2 cc)) := (show Ext w _ by (repeat (first | exact Ext.refl _ | assumption | refine Ext.alloc ?_ _ | refine Ext.drewN ?_ _ | refine Ext.drew ?_))).cell' c1 zg
      have HK2 : Hid ((w.alloc (.cells #[.int .i64 s, .int .i64 P, .int .i64 Q, .slice a ll.length cap] 37)).cell? ⟨h, 0, none⟩ = some (.pointer (some ⟨ga, 0, none⟩))) := (show Ext w _ by (repeat (first | exact Ext.refl _ | assumption | refine Ext.alloc ?_ _ | refine Ext.drewN ?_ _ | refine Ext.drew ?_))).cell' c2 zh
      have HK3 : Hid ((w.alloc (.cells #[.int .i64 s, .int .i64 P, .int .i64 Q, .slice a ll.length cap] 37)).cell? ⟨h, 1, none⟩ = some (.pointer (some ⟨gb, 0, none⟩))) := (show Ext w _ by (repeat (first | exact Ext.refl _ | assumption | refine Ext.alloc ?_ _ | refine Ext.drewN ?_ _ | refine Ext.drew ?_))).cell' c3 zh
      have HB := Lib.hid (show BoxM (w.alloc (.cells #[.int .i64 s, .int .i64 P, .int .i64 Q, .slice a ll.length cap] 37)) w.heap.size s P Q (.slice a ll.length cap) by simp [BoxM, go_sem])
      go_region_held3 (fun w' => w'.cell? ⟨w.heap.size, 0, none⟩ = some (.int .i64 s) ∧ w'.cell? ⟨w.heap.size, 1, none⟩ = some (.int .i64 P) ∧ w'.cell? ⟨w.heap.size, 2, none⟩ = some (.int .i64 Q) ∧ w'.cell? ⟨w.heap.size, 3, none⟩ = some (.slice a ll.length cap) ∧ w'.cell? ⟨g, 1, none⟩ = some (.slice (some ⟨h, 0, none⟩) 2 cc) ∧ w'.cell? ⟨h, 0, none⟩ = some (.pointer (some ⟨ga, 0, none⟩)) ∧ w'.cell? ⟨h, 1, none⟩ = some (.pointer (some ⟨gb, 0, none⟩)))
        (first
          | go_keep
          | (have E := Ext.trans (Ext.drew (Ext.refl _)) yk; have hk1 := HB.out.ext E; exact ⟨hk1.1, hk1.2.1, hk1.2.2.1, hk1.2.2.2, E.cell' HK.out (by simp; omega), E.cell' HK2.out (by simp; omega), E.cell' HK3.out (by simp; omega)⟩)
          | (have E := Ext.trans (Ext.trans (Ext.drew (Ext.refl _)) yk) yl; have hk1 := HB.out.ext E; exact ⟨hk1.1, hk1.2.1, hk1.2.2.1, hk1.2.2.2, E.cell' HK.out (by simp; omega), E.cell' HK2.out (by simp; omega), E.cell' HK3.out (by simp; omega)⟩)
          | (have E := Ext.trans (Ext.trans (Ext.trans (Ext.drew (Ext.refl _)) yk) yl) ym; have hk1 := HB.out.ext E; exact ⟨hk1.1, hk1.2.1, hk1.2.2.1, hk1.2.2.2, E.cell' HK.out (by simp; omega), E.cell' HK2.out (by simp; omega), E.cell' HK3.out (by simp; omega)⟩))
        ((first
          | (go_at_call 106; have _t := yk; refine (ih2.out _ (Ext.trans (Ext.trans (show Ext w (World.drew (World.alloc w _)) by (repeat (first | exact Ext.refl _ | assumption | refine Ext.alloc ?_ _ | refine Ext.drewN ?_ _ | refine Ext.drew ?_))) yk) (Ext.refl _))).mono ?_; rintro e wl ⟨vl, rfl, ol, yl⟩; obtain ⟨al, cl, rfl, il⟩ := ol.shape; replace ik := ik.ext yl)
          | (go_at_call 106; refine (ih.out _ (by (repeat (first | exact Ext.refl _ | assumption | refine Ext.alloc ?_ _ | refine Ext.drewN ?_ _ | refine Ext.drew ?_)))).mono ?_; rintro e wk ⟨vk, rfl, ok, yk⟩; obtain ⟨ak, ck, rfl, ik⟩ := ok.shape; have hz := yk.size)
          | (go_at_call 152; refine (CP.out _ ak ck al cl ik il).mono ?_; rintro e wm ⟨vm, rfl, om, ym⟩)))
      have HX := Lib.hid (Ext.trans (Ext.trans (Ext.trans (show Ext w _ by (repeat (first | exact Ext.refl _ | assumption | refine Ext.alloc ?_ _ | refine Ext.drewN ?_ _ | refine Ext.drew ?_))) yk) yl) ym)
      have O1 := Lib.hid (om.mono (B' := w.heap.size) (by have := yl.size; simp at hz; omega))
      clear ok yk ol yl ik il om ym hz
      go_wp2
      go_ret
      exact ⟨vm, rfl, by rw [HF.out]; exact O1.out, HX.out⟩
end Go.Proofs.YtlaamecfknkmlaaGreat
