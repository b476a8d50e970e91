/- Merged texts: contracts and plain lemmas (Ir, Ro, Rg, Rs, Hb). -/
import Derived.Test.YtlaamecfknkmlaaGreatGs4
import Derived.Test.YtlaamecfknkmlaaGreatGs1
import Derived.Test.YtlaamecfknkmlaaGreatGs3
import Derived.Deep.RegionLaw
import Derived.Test.YtlaamecfknkmlaaGreatGs2
import Derived.Deep.RegionHeld3
import Derived.Lib.QuietBelow
namespace Go.Kt
set_option linter.unusedVariables false
theorem andN_pow2 (x k : Nat) : andN x (pow2 k) = if x.testBit k then pow2 k else 0 := by
  apply Nat.eq_of_testBit_eq
  intro i
  rw [testBit_andN, testBit_pow2]
  by_cases h : k = i
  · subst h
    cases hb : x.testBit k
    · simp
    · simp [testBit_pow2]
  · rw [decide_eq_false h, Bool.and_false]
    split
    · rw [testBit_pow2, decide_eq_false h]
    · simp
end Go.Kt
namespace Go.Proofs.YtlaamecfknkmlaaGreat
set_option linter.unusedVariables false
open Go.RowKit Go.Kt

theorem own_sized {w : World} {B E cap n : Nat} {a : Option Addr} {l : List Int} (h : OwnI w B E (.slice a n cap) l) (e : l.length = n) : OwnI w B E (.slice a l.length cap) l := by subst e; exact h
set_option maxRecDepth 100000 in
set_option maxHeartbeats 1000000 in
theorem testRows_c (sn p q : Nat) (av : Value) (t : Nat) (w : World) (hs : sn ≤ 5) (hp : p < 4294967296) (hq : q < 4294967296) (ht : t < 65536) :
    Calls Tryz.prog 99 #[.agg #[.int .i64 sn, .int .i64 p, .int .i64 q, av], .int .i64 t] w (RetI 3 w (testL p q t sn sn)) := by
  obtain ⟨i0, hi, hz0, hz1, hz2⟩ := info_parts infoInt
  have Hi := Lib.hid hi
  have Hz0 := Lib.hid hz0
  have Hz1 := Lib.hid hz1
  have Hz2 := Lib.hid hz2
  have HL := Lib.hid (testL_length p q t sn sn)
  clear hi hz0 hz1 hz2
  go_enter Tryz.func99, Tryz.ntmps99
  go_wp2_with (at_make; refine wpList_make_full _ rfl _ _ _ rfl w.heap.size 3 i0 (.int .i64 0) 1 Tryz.underlying23 Hi.out Hz0.out Hz1.out _ _ _ _ sn rfl rfl rfl rfl (by rw [Hz2.out]; omega) (by unfold maxLen; omega) (by simp) ?_)
  intro w2 ho hg
  have hx2 := Lib.hid (Ext.trans (show Ext w _ by (repeat (first | exact Ext.refl _ | assumption | refine Ext.alloc ?_ _ | refine Ext.drewN ?_ _ | refine Ext.drew ?_))) (Ext.of_grown hg))
  have hb2 := Lib.hid (BoxM.ext (show BoxM (w.alloc (.cells #[.int .i64 sn, .int .i64 p, .int .i64 q, av] 37)) w.heap.size sn p q av by simp [BoxM, go_sem]) (Ext.of_grown hg))
  have ho2 := own_made ho
  have HO2 := Lib.hid ho2
  obtain ⟨k0, k1, k2, k3⟩ := hb2.out.out
  clear ho hg ho2
  go_wp2
  go_loopw [12] (fun i wr => Hid (∃ k : Nat, k ≤ sn ∧ i = .int .i64 k ∧ OwnI wr w.heap.size 3 (.slice (some ⟨w.heap.size + 1, 0, none⟩) sn sn) (fillTo (testL p q t sn sn) k) ∧ BoxM wr w.heap.size sn p q av ∧ Ext w wr)) (fun i _ => sn - (intOf i).toNat)
  case atStart => exact Lib.hid ⟨0, Nat.zero_le _, rfl, by rw [fillTo_zero, HL.out]; exact HO2.out, hb2.out, hx2.out⟩
  case round =>
    obtain ⟨k, hk, rfl, ho, hb, hx⟩ := hrel.out
    clear hrel HO2 hb2 hx2 k0 k1 k2 k3
    by_cases hlt : k < sn
    · have hfl := fillTo_length (testL p q t sn sn) k (by rw [HL.out]; omega)
      rw [HL.out] at hfl
      have ho2 := own_sized ho hfl
      obtain ⟨g, cap', hv, hB, hgs, hcell, hfz⟩ := ho2.row (by rw [hfl]; omega)
      obtain ⟨rfl, -⟩ : w.heap.size + 1 = g ∧ sn = cap' := by simpa using hv
      have hc := hcell k (by rw [hfl]; exact hlt)
      have hf := hfz k
      have HC := Lib.hid hc
      have HF := Lib.hid hf
      have hpc := pow2_cast k
      have hp1 : pow2 k ≤ 16 := pow2_le k 4 (by omega)
      have hl := tsTo_lt p q t sn
      have hl2 : tsTo p q t sn < 32 := Nat.lt_of_lt_of_le hl (Nat.pow_le_pow_right (by decide) hs)
      have ha : bits .and .i64 ((tsTo p q t sn : Nat) : Int) ((pow2 k : Nat) : Int) = ((testRow p q t sn k : Nat) : Int) := by
        rw [i64_and _ _ (by omega) (by omega)]
        have := andN_pow2 (tsTo p q t sn) k
        unfold andN at this
        rw [this]; rfl
      have hset := Lib.hid (ho2.set k ((testRow p q t sn k : Nat) : Int))
      have hst : Hid ((fillTo (testL p q t sn sn) k).set k ((testRow p q t sn k : Nat) : Int) = fillTo (testL p q t sn sn) (k + 1)) := by
        unfold Hid
        have := fillTo_set (testL p q t sn sn) k (by rw [HL.out]; exact hlt)
        rw [testL_get p q t sn sn k hlt] at this
        exact this
      have HO := Lib.hid ho2
      have HB := Lib.hid hb
      have HX := Lib.hid hx
      obtain ⟨k0, k1, k2, k3⟩ := hb.out
      have CT : Hid (∀ w' : World, Calls Tryz.prog 94 #[.agg #[.int .i64 sn, .int .i64 p, .int .i64 q, av], .int .i64 t] w' fun e w'' => e = .returned (.int .i64 (tsTo p q t sn : Nat)) ∧ Ext w' w'') := fun w' => testStates_c sn p q av t w' hs hp hq ht
      clear hv hcell hfz ho ho2 hc hf hb hx hl
      generalize tsTo p q t sn = S at *
      generalize testRow p q t sn k = R at *
      go_wp2
      go_region_law ((go_simp; go_at_call 94; refine (CT.out _).mono ?_; rintro e wk ⟨rfl, yk⟩
                      have yk2 : Ext wr wk := Ext.trans (by (repeat (first | exact Ext.refl _ | assumption | refine Ext.alloc ?_ _ | refine Ext.drewN ?_ _ | refine Ext.drew ?_))) yk
                      have hck := yk2.cell' HC.out hgs
                      have hfk := (yk2.frozen (p := ⟨w.heap.size + 1, k, none⟩) hgs).trans HF.out
                      have YK := Lib.hid yk2
                      clear yk yk2))
      all_goals
        go_wp2
        go_roundw
        case rel =>
          refine Lib.hid ⟨k + 1, by omega, by go_num, ?_, ?_, ?_⟩
          · exact (own_len ((HO.out.ext YK.out).set k (bits .and .i64 (S : Int) ((pow2 k : Nat) : Int))) (by rw [ha]; exact hst.out) (by rw [fillTo_length _ _ (by rw [HL.out]; omega), HL.out])).ext (by (repeat (first | exact Ext.refl _ | assumption | refine Ext.alloc ?_ _ | refine Ext.drewN ?_ _ | refine Ext.drew ?_)))
          · exact (BoxM.setOther (c := w.heap.size + 1) (HB.out.ext YK.out) (by simp)).ext (by (repeat (first | exact Ext.refl _ | assumption | refine Ext.alloc ?_ _ | refine Ext.drewN ?_ _ | refine Ext.drew ?_)))
          · exact Ext.trans (Ext.setCell (HX.out.trans YK.out) (p := ⟨w.heap.size + 1, k, none⟩) hB _) (by (repeat (first | exact Ext.refl _ | assumption | refine Ext.alloc ?_ _ | refine Ext.drewN ?_ _ | refine Ext.drew ?_)))
        case measure => simp [intOf]; omega
    · obtain rfl : k = sn := by omega
      have hfe := fillTo_end (testL p q t k k)
      rw [HL.out] at hfe
      rw [hfe] at ho
      go_wp2
      go_ret
      exact ⟨_, rfl, ho.ext (by (repeat (first | exact Ext.refl _ | assumption | refine Ext.alloc ?_ _ | refine Ext.drewN ?_ _ | refine Ext.drew ?_))), hx.trans (by (repeat (first | exact Ext.refl _ | assumption | refine Ext.alloc ?_ _ | refine Ext.drewN ?_ _ | refine Ext.drew ?_)))⟩
end Go.Proofs.YtlaamecfknkmlaaGreat
namespace Go.Proofs.YtlaamecfknkmlaaGreat
set_option linter.unusedVariables false
open Go.RowKit Go.Kt

theorem rvB_relK {s : Nat} {l : List Int} (h : rvB s l = true) : Rel s l := by
  have := rvB_len h
  have h2 := rvB_sets h
  exact ⟨by omega, by omega, h2.1, fun i hi => h2.2.1 i (by omega)⟩
theorem thenF_rel {s : Nat} {a b : List Int} (h1 : 1 ≤ s) (h5 : s ≤ 5) (ha : Rel s a) (hb : Rel s b) : thenF s a b = thenTo a b a.length := by
  unfold thenF; rw [rvB_rel h1 h5 ha, rvB_rel h1 h5 hb]; rfl
theorem plusF_rel {s : Nat} {a b : List Int} (h1 : 1 ≤ s) (h5 : s ≤ 5) (ha : Rel s a) (hb : Rel s b) : plusF s a b = plusTo a b a.length := by
  unfold plusF; rw [rvB_rel h1 h5 ha, rvB_rel h1 h5 hb]; rfl
theorem starF_rel {s : Nat} {a : List Int} (h1 : 1 ≤ s) (h5 : s ≤ 5) (ha : Rel s a) : starF s a = starTo a a.length := by
  unfold starF; rw [rvB_rel h1 h5 ha]; rfl
set_option maxRecDepth 100000 in
set_option maxHeartbeats 2000000 in
theorem rows_c (s P Q : Nat) (a : Option Addr) (cap : Nat) (ll : List (List Int)) (h1 : 1 ≤ s) (h5 : s ≤ 5) (hP : P < 4294967296) (hQ : Q < 4294967296) (h3 : Hid (ll.length = 3)) (hrv : Hid (∀ i, i < 3 → rvB s (rowI ll i) = true)) :
    ∀ (t : Kt), t.Good → ∀ (g : Nat) (w : World), RowsAt w a ll → TreeAt w (fun _ => False) t g →
      Calls Tryz.prog 106 #[modelV s P Q a ll.length cap, .pointer (some ⟨g, 0, none⟩)] w (RetI 3 w (t.rows P Q s ll))
  | .leaf x, hg, g, w, hr, ht => by
    have hg : 0 ≤ x ∧ x ≤ 18 := hg
    have c0 : w.cell? ⟨g, 0, none⟩ = some (.int .i64 x) := ht.2.1
    have zg := lt_of_cell c0
    have HR := Lib.hid hr
    have hlen3 : 0 < ll.length := by rw [h3.out]; omega
    clear ht hr
    by_cases h15 : x ≤ 15
    · obtain ⟨X, rfl⟩ := Int.eq_ofNat_of_zero_le hg.1
      have hX : X < 65536 := by omega
      have hact : inB (X : Int) 16 18 = false := by simp [inB]; omega
      have e1 : ((X : Int) == 19) = false := by simp; omega
      have e2 : ((X : Int) == 20) = false := by simp; omega
      have e3 : ((X : Int) == 21) = false := by simp; omega
      have HF : Hid ((Kt.leaf (X : Int)).rows P Q s ll = testL P Q X s s) := by unfold Hid; simp only [Kt.rows]; rw [if_pos h15, Int.toNat_natCast]
      have CT : Hid (∀ w', Calls Tryz.prog 99 #[modelV s P Q a ll.length cap, .int .i64 X] w' (RetI 3 w' (testL P Q X s s))) := fun w' => testRows_c s P Q _ X w' h5 hP hQ hX
      clear hg h15
      go_enter Tryz.func106, Tryz.ntmps106
      go_wp2_with fail
      refine (actB_c _ _).mono ?_
      rw [hact]
      rintro e w1 ⟨rfl, rfl⟩
      go_wp2
      have HK : Hid ((w.alloc (.cells #[.int .i64 s, .int .i64 P, .int .i64 Q, .slice a ll.length cap] 37)).cell? ⟨g, 0, none⟩ = some (.int .i64 X)) := (show Ext w _ by (repeat (first | exact Ext.refl _ | assumption | refine Ext.alloc ?_ _ | refine Ext.drewN ?_ _ | refine Ext.drew ?_))).cell' c0 zg
      have HB := Lib.hid (show BoxM (w.alloc (.cells #[.int .i64 s, .int .i64 P, .int .i64 Q, .slice a ll.length cap] 37)) w.heap.size s P Q (.slice a ll.length cap) by simp [BoxM, go_sem])
      go_region_held3 (fun w' => w'.cell? ⟨w.heap.size, 0, none⟩ = some (.int .i64 s) ∧ w'.cell? ⟨w.heap.size, 1, none⟩ = some (.int .i64 P) ∧ w'.cell? ⟨w.heap.size, 2, none⟩ = some (.int .i64 Q) ∧ w'.cell? ⟨w.heap.size, 3, none⟩ = some (.slice a ll.length cap) ∧ w'.cell? ⟨g, 0, none⟩ = some (.int .i64 X))
        (first
          | go_keep
          | (have hk1 := HB.out.ext (Ext.trans (Ext.drew (Ext.refl _)) yk); have hk2 := (Ext.trans (Ext.drew (Ext.refl _)) yk).cell' HK.out (by simp; omega); exact ⟨hk1.1, hk1.2.1, hk1.2.2.1, hk1.2.2.2, hk2⟩))
        ((go_at_call 99; refine (CT.out _).mono ?_; rintro e wk ⟨vk, rfl, ok, yk⟩))
      have HX := Lib.hid (Ext.trans (show Ext w _ by (repeat (first | exact Ext.refl _ | assumption | refine Ext.alloc ?_ _ | refine Ext.drewN ?_ _ | refine Ext.drew ?_))) yk)
      have O1 := Lib.hid (ok.mono (B' := w.heap.size) (by simp))
      clear ok yk
      go_wp2
      go_ret
      exact ⟨vk, rfl, by rw [HF.out]; exact O1.out, HX.out⟩
    · obtain ⟨y, hy⟩ : ∃ y : Nat, x = 16 + (y : Int) := ⟨(x - 16).toNat, by omega⟩
      have hy3 : y < 3 := by omega
      subst hy
      have hact : inB (16 + (y : Int)) 16 18 = true := by simp [inB]; omega
      have hyl : y < ll.length := by rw [h3.out]; exact hy3
      obtain ⟨b, off, h8, h9⟩ := HR.out
      obtain ⟨rfl, hb⟩ := h8 hlen3
      obtain ⟨ai, ci, kr, hri⟩ := h9 y hyl
      have hrl : Rel s (rowI ll y) := rvB_relK (hrv.out y hy3)
      have hl5 : (rowI ll y).length = s := hrl.len
      have zi : b < w.heap.size := hb
      have HF : Hid ((Kt.leaf (16 + (y : Int))).rows P Q s ll = rowI ll y) := by
        unfold Hid; simp only [Kt.rows]; rw [if_neg h15, show (16 + (y : Int)).toNat - 16 = y by omega]
      have HI := Lib.hid hri
      have CT : Hid (∀ w', Ext w w' → Calls Tryz.prog 135 #[.slice ai (rowI ll y).length ci] w' (RetI 3 w' (rowI ll y))) := fun w' hx => cloneI_c ai ci (rowI ll y) w' (HI.out.ext hx) (by omega) (by omega)
      have hw16 : IntKind.i64.wrap (16 + (y : Int) - 16) = (y : Int) := by rw [IntWalk.i64_in _ (by omega)]; omega
      clear h8 h9 hri hrl hl5 hg h15 HR
      go_enter Tryz.func106, Tryz.ntmps106
      go_wp2_with fail
      refine (actB_c _ _).mono ?_
      rw [hact]
      rintro e w1 ⟨rfl, rfl⟩
      go_wp2
      have HK : Hid ((w.alloc (.cells #[.int .i64 s, .int .i64 P, .int .i64 Q, .slice (some ⟨b, off, none⟩) ll.length cap] 37)).cell? ⟨g, 0, none⟩ = some (.int .i64 (16 + (y : Int)))) := (show Ext w _ by (repeat (first | exact Ext.refl _ | assumption | refine Ext.alloc ?_ _ | refine Ext.drewN ?_ _ | refine Ext.drew ?_))).cell' c0 zg
      have HK2 : Hid ((w.alloc (.cells #[.int .i64 s, .int .i64 P, .int .i64 Q, .slice (some ⟨b, off, none⟩) ll.length cap] 37)).cell? ⟨b, off + y, none⟩ = some (.slice ai (rowI ll y).length ci)) := (show Ext w _ by (repeat (first | exact Ext.refl _ | assumption | refine Ext.alloc ?_ _ | refine Ext.drewN ?_ _ | refine Ext.drew ?_))).cell' kr zi
      have HB := Lib.hid (show BoxM (w.alloc (.cells #[.int .i64 s, .int .i64 P, .int .i64 Q, .slice (some ⟨b, off, none⟩) ll.length cap] 37)) w.heap.size s P Q (.slice (some ⟨b, off, none⟩) ll.length cap) by simp [BoxM, go_sem])
      go_region_held3 (fun w' => w'.cell? ⟨w.heap.size, 0, none⟩ = some (.int .i64 s) ∧ w'.cell? ⟨w.heap.size, 1, none⟩ = some (.int .i64 P) ∧ w'.cell? ⟨w.heap.size, 2, none⟩ = some (.int .i64 Q) ∧ w'.cell? ⟨w.heap.size, 3, none⟩ = some (.slice (some ⟨b, off, none⟩) ll.length cap) ∧ w'.cell? ⟨g, 0, none⟩ = some (.int .i64 (16 + (y : Int))) ∧ w'.cell? ⟨b, off + y, none⟩ = some (.slice ai (rowI ll y).length ci))
        (first
          | go_keep
          | (have E := Ext.trans (Ext.drew (Ext.refl _)) yk; have hk1 := HB.out.ext E; exact ⟨hk1.1, hk1.2.1, hk1.2.2.1, hk1.2.2.2, E.cell' HK.out (by simp; omega), E.cell' HK2.out (by simp; omega)⟩))
        ((go_at_call 135; refine (CT.out _ (by (repeat (first | exact Ext.refl _ | assumption | refine Ext.alloc ?_ _ | refine Ext.drewN ?_ _ | refine Ext.drew ?_)))).mono ?_; rintro e wk ⟨vk, rfl, ok, yk⟩))
      have HX := Lib.hid (Ext.trans (show Ext w _ by (repeat (first | exact Ext.refl _ | assumption | refine Ext.alloc ?_ _ | refine Ext.drewN ?_ _ | refine Ext.drew ?_))) yk)
      have O1 := Lib.hid (ok.mono (B' := w.heap.size) (by simp))
      clear ok yk
      go_wp2
      go_ret
      exact ⟨vk, rfl, by rw [HF.out]; exact O1.out, HX.out⟩
  | .star b, hg, g, w, hr, ht => by
    obtain ⟨-, c0, h, c, ga, c1, -, c2, hta⟩ := ht
    replace c2 : w.cell? ⟨h, 0, none⟩ = some (.pointer (some ⟨ga, 0, none⟩)) := c2
    have zg := lt_of_cell c0
    have zh := lt_of_cell c2
    have HR := Lib.hid hr
    have HT := Lib.hid hta
    have hrel := b.rows_rel P Q s ll (by omega) (fun i hi => rvB_relK (hrv.out i hi)) hg
    have ih : Hid (∀ w', Ext w w' → Calls Tryz.prog 106 #[modelV s P Q a ll.length cap, .pointer (some ⟨ga, 0, none⟩)] w' (RetI 3 w' (b.rows P Q s ll))) := fun w' hx =>
      rows_c s P Q a cap ll h1 h5 hP hQ h3 hrv b hg ga w' (HR.out.ext hx) (HT.out.ext hx)
    have HF : Hid ((Kt.star b).rows P Q s ll = starTo (b.rows P Q s ll) (b.rows P Q s ll).length) := rfl
    have hll := hrel.len
    generalize b.rows P Q s ll = la at *
    have CT : Hid (∀ w' ak ck, IntsAt w' ak la → Calls Tryz.prog 153 #[.int .i64 s, .slice ak la.length ck] w' (RetI 3 w' (starTo la la.length))) := fun w' ak ck hi => by
      rw [← starF_rel h1 h5 hrel]; exact iRowsStar_c s ak ck la w' hi (by omega)
    have hact : inB 21 16 18 = false := rfl
    clear hg hr hta hrel hll
    go_enter Tryz.func106, Tryz.ntmps106
    go_wp2_with fail
    refine (actB_c _ _).mono ?_
    rw [hact]
    rintro e w1 ⟨rfl, rfl⟩
    go_wp2
    have HK : Hid ((w.alloc (.cells #[.int .i64 s, .int .i64 P, .int .i64 Q, .slice a ll.length cap] 37)).cell? ⟨g, 1, none⟩ = some (.slice (some ⟨h, 0, none⟩) 1 c)) := (show Ext w _ by (repeat (first | exact Ext.refl _ | assumption | refine Ext.alloc ?_ _ | refine Ext.drewN ?_ _ | refine Ext.drew ?_))).cell' c1 zg
    have HK2 : Hid ((w.alloc (.cells #[.int .i64 s, .int .i64 P, .int .i64 Q, .slice a ll.length cap] 37)).cell? ⟨h, 0, none⟩ = some (.pointer (some ⟨ga, 0, none⟩))) := (show Ext w _ by (repeat (first | exact Ext.refl _ | assumption | refine Ext.alloc ?_ _ | refine Ext.drewN ?_ _ | refine Ext.drew ?_))).cell' c2 zh
    have HB := Lib.hid (show BoxM (w.alloc (.cells #[.int .i64 s, .int .i64 P, .int .i64 Q, .slice a ll.length cap] 37)) w.heap.size s P Q (.slice a ll.length cap) by simp [BoxM, go_sem])
    go_region_held3 (fun w' => w'.cell? ⟨w.heap.size, 0, none⟩ = some (.int .i64 s) ∧ w'.cell? ⟨w.heap.size, 1, none⟩ = some (.int .i64 P) ∧ w'.cell? ⟨w.heap.size, 2, none⟩ = some (.int .i64 Q) ∧ w'.cell? ⟨w.heap.size, 3, none⟩ = some (.slice a ll.length cap) ∧ w'.cell? ⟨g, 1, none⟩ = some (.slice (some ⟨h, 0, none⟩) 1 c) ∧ w'.cell? ⟨h, 0, none⟩ = some (.pointer (some ⟨ga, 0, none⟩)))
      (first
        | go_keep
        | (have E := Ext.trans (Ext.drew (Ext.refl _)) yk; have hk1 := HB.out.ext E; exact ⟨hk1.1, hk1.2.1, hk1.2.2.1, hk1.2.2.2, E.cell' HK.out (by simp; omega), E.cell' HK2.out (by simp; omega)⟩)
        | (have E := Ext.trans (Ext.trans (Ext.drew (Ext.refl _)) yk) yl; have hk1 := HB.out.ext E; exact ⟨hk1.1, hk1.2.1, hk1.2.2.1, hk1.2.2.2, E.cell' HK.out (by simp; omega), E.cell' HK2.out (by simp; omega)⟩))
      ((first
        | (go_at_call 106; refine (ih.out _ (by (repeat (first | exact Ext.refl _ | assumption | refine Ext.alloc ?_ _ | refine Ext.drewN ?_ _ | refine Ext.drew ?_)))).mono ?_; rintro e wk ⟨vk, rfl, ok, yk⟩; obtain ⟨ak, ck, rfl, ik⟩ := ok.shape)
        | (go_at_call 153; refine (CT.out _ ak ck ik).mono ?_; rintro e wl ⟨vl, rfl, ol, yl⟩)))
    have HX := Lib.hid (Ext.trans (Ext.trans (show Ext w _ by (repeat (first | exact Ext.refl _ | assumption | refine Ext.alloc ?_ _ | refine Ext.drewN ?_ _ | refine Ext.drew ?_))) yk) yl)
    have O1 := Lib.hid (ol.mono (B' := w.heap.size) (by have := yk.size; simp at this; omega))
    clear ok yk ol yl ik
    go_wp2
    go_ret
    exact ⟨vl, rfl, by rw [HF.out]; exact O1.out, HX.out⟩
  | .two x b c, hg, g, w, hr, ht => by
    obtain ⟨-, c0, h, cc, ga, gb, c1, -, c2, c3, hta, htb⟩ := ht
    replace c2 : w.cell? ⟨h, 0, none⟩ = some (.pointer (some ⟨ga, 0, none⟩)) := c2
    replace c3 : w.cell? ⟨h, 1, none⟩ = some (.pointer (some ⟨gb, 0, none⟩)) := c3
    have zg := lt_of_cell c0
    have zh := lt_of_cell c2
    have HR := Lib.hid hr
    have HT := Lib.hid hta
    have HU := Lib.hid htb
    have hrel := b.rows_rel P Q s ll (by omega) (fun i hi => rvB_relK (hrv.out i hi)) hg.2.1
    have hrel2 := c.rows_rel P Q s ll (by omega) (fun i hi => rvB_relK (hrv.out i hi)) hg.2.2
    have ih : Hid (∀ w', Ext w w' → Calls Tryz.prog 106 #[modelV s P Q a ll.length cap, .pointer (some ⟨ga, 0, none⟩)] w' (RetI 3 w' (b.rows P Q s ll))) := fun w' hx =>
      rows_c s P Q a cap ll h1 h5 hP hQ h3 hrv b hg.2.1 ga w' (HR.out.ext hx) (HT.out.ext hx)
    have ih2 : Hid (∀ w', Ext w w' → Calls Tryz.prog 106 #[modelV s P Q a ll.length cap, .pointer (some ⟨gb, 0, none⟩)] w' (RetI 3 w' (c.rows P Q s ll))) := fun w' hx =>
      rows_c s P Q a cap ll h1 h5 hP hQ h3 hrv c hg.2.2 gb w' (HR.out.ext hx) (HU.out.ext hx)
    have HF : Hid ((Kt.two 20 b c).rows P Q s ll = plusTo (b.rows P Q s ll) (c.rows P Q s ll) (b.rows P Q s ll).length) := rfl
    have HF2 : Hid ((Kt.two 19 b c).rows P Q s ll = thenTo (b.rows P Q s ll) (c.rows P Q s ll) (b.rows P Q s ll).length) := rfl
    have hll := hrel.len
    have hll2 := hrel2.len
    have hx : x = 19 ∨ x = 20 := hg.1
    generalize b.rows P Q s ll = la at *
    generalize c.rows P Q s ll = lb at *
    have CP : Hid (∀ w' ak ck al cl, IntsAt w' ak la → IntsAt w' al lb → Calls Tryz.prog 152 #[.int .i64 s, .slice ak la.length ck, .slice al lb.length cl] w' (RetI 3 w' (plusTo la lb la.length))) := fun w' ak ck al cl hi hj => by
      rw [← plusF_rel h1 h5 hrel hrel2]; exact iRowsPlus_c s ak al ck cl la lb w' hi hj (by omega) (by omega)
    have CT : Hid (∀ w' ak ck al cl, IntsAt w' ak la → IntsAt w' al lb → Calls Tryz.prog 100 #[.int .i64 s, .slice ak la.length ck, .slice al lb.length cl] w' (RetI 3 w' (thenTo la lb la.length))) := fun w' ak ck al cl hi hj => by
      rw [← thenF_rel h1 h5 hrel hrel2]; exact iRowsThen_c s ak al ck cl la lb w' hi hj (by omega) (by omega)
    have hact : inB 19 16 18 = false := rfl
    have hact2 : inB 20 16 18 = false := rfl
    clear hg hr hta htb hrel hrel2 hll hll2
    rcases hx with rfl | rfl
    · go_enter Tryz.func106, Tryz.ntmps106
      go_wp2_with fail
      refine (actB_c _ _).mono ?_
      first | rw [hact] | rw [hact2]
      rintro e w1 ⟨rfl, rfl⟩
      go_wp2
      have HK : Hid ((w.alloc (.cells #[.int .i64 s, .int .i64 P, .int .i64 Q, .slice a ll.length cap] 37)).cell? ⟨g, 1, none⟩ = some (.slice (some ⟨h, 0, none⟩) 2 cc)) := (show Ext w _ by (repeat (first | exact Ext.refl _ | assumption | refine Ext.alloc ?_ _ | refine Ext.drewN ?_ _ | refine Ext.drew ?_))).cell' c1 zg
      have HK2 : Hid ((w.alloc (.cells #[.int .i64 s, .int .i64 P, .int .i64 Q, .slice a ll.length cap] 37)).cell? ⟨h, 0, none⟩ = some (.pointer (some ⟨ga, 0, none⟩))) := (show Ext w _ by (repeat (first | exact Ext.refl _ | assumption | refine Ext.alloc ?_ _ | refine Ext.drewN ?_ _ | refine Ext.drew ?_))).cell' c2 zh
      have HK3 : Hid ((w.alloc (.cells #[.int .i64 s, .int .i64 P, .int .i64 Q, .slice a ll.length cap] 37)).cell? ⟨h, 1, none⟩ = some (.pointer (some ⟨gb, 0, none⟩))) := (show Ext w _ by (repeat (first | exact Ext.refl _ | assumption | refine Ext.alloc ?_ _ | refine Ext.drewN ?_ _ | refine Ext.drew ?_))).cell' c3 zh
      have HB := Lib.hid (show BoxM (w.alloc (.cells #[.int .i64 s, .int .i64 P, .int .i64 Q, .slice a ll.length cap] 37)) w.heap.size s P Q (.slice a ll.length cap) by simp [BoxM, go_sem])
      go_region_held3 (fun w' => w'.cell? ⟨w.heap.size, 0, none⟩ = some (.int .i64 s) ∧ w'.cell? ⟨w.heap.size, 1, none⟩ = some (.int .i64 P) ∧ w'.cell? ⟨w.heap.size, 2, none⟩ = some (.int .i64 Q) ∧ w'.cell? ⟨w.heap.size, 3, none⟩ = some (.slice a ll.length cap) ∧ w'.cell? ⟨g, 1, none⟩ = some (.slice (some ⟨h, 0, none⟩) 2 cc) ∧ w'.cell? ⟨h, 0, none⟩ = some (.pointer (some ⟨ga, 0, none⟩)) ∧ w'.cell? ⟨h, 1, none⟩ = some (.pointer (some ⟨gb, 0, none⟩)))
        (first
          | go_keep
          | (have E := Ext.trans (Ext.drew (Ext.refl _)) yk; have hk1 := HB.out.ext E; exact ⟨hk1.1, hk1.2.1, hk1.2.2.1, hk1.2.2.2, E.cell' HK.out (by simp; omega), E.cell' HK2.out (by simp; omega), E.cell' HK3.out (by simp; omega)⟩)
          | (have E := Ext.trans (Ext.trans (Ext.drew (Ext.refl _)) yk) yl; have hk1 := HB.out.ext E; exact ⟨hk1.1, hk1.2.1, hk1.2.2.1, hk1.2.2.2, E.cell' HK.out (by simp; omega), E.cell' HK2.out (by simp; omega), E.cell' HK3.out (by simp; omega)⟩)
          | (have E := Ext.trans (Ext.trans (Ext.trans (Ext.drew (Ext.refl _)) yk) yl) ym; have hk1 := HB.out.ext E; exact ⟨hk1.1, hk1.2.1, hk1.2.2.1, hk1.2.2.2, E.cell' HK.out (by simp; omega), E.cell' HK2.out (by simp; omega), E.cell' HK3.out (by simp; omega)⟩))
        ((first
          | (go_at_call 106; have _t := yk; refine (ih2.out _ (Ext.trans (Ext.trans (show Ext w (World.drew (World.alloc w _)) by (repeat (first | exact Ext.refl _ | assumption | refine Ext.alloc ?_ _ | refine Ext.drewN ?_ _ | refine Ext.drew ?_))) yk) (Ext.refl _))).mono ?_; rintro e wl ⟨vl, rfl, ol, yl⟩; obtain ⟨al, cl, rfl, il⟩ := ol.shape; replace ik := ik.ext yl)
          | (go_at_call 106; refine (ih.out _ (by (repeat (first | exact Ext.refl _ | assumption | refine Ext.alloc ?_ _ | refine Ext.drewN ?_ _ | refine Ext.drew ?_)))).mono ?_; rintro e wk ⟨vk, rfl, ok, yk⟩; obtain ⟨ak, ck, rfl, ik⟩ := ok.shape; have hz := yk.size)
          | (go_at_call 100; refine (CT.out _ ak ck al cl ik il).mono ?_; rintro e wm ⟨vm, rfl, om, ym⟩)))
      have HX := Lib.hid (Ext.trans (Ext.trans (Ext.trans (show Ext w _ by (repeat (first | exact Ext.refl _ | assumption | refine Ext.alloc ?_ _ | refine Ext.drewN ?_ _ | refine Ext.drew ?_))) yk) yl) ym)
      have O1 := Lib.hid (om.mono (B' := w.heap.size) (by have := yl.size; simp at hz; omega))
      clear ok yk ol yl ik il om ym hz
      go_wp2
      go_ret
      exact ⟨vm, rfl, by rw [HF2.out]; exact O1.out, HX.out⟩
    · go_enter Tryz.func106, Tryz.ntmps106
      go_wp2_with fail
      refine (actB_c _ _).mono ?_
      first | rw [hact] | rw [hact2]
      rintro e w1 ⟨rfl, rfl⟩
      go_wp2
      have HK : Hid ((w.alloc (.cells #[.int .i64 s, .int .i64 P, .int .i64 Q, .slice a ll.length cap] 37)).cell? ⟨g, 1, none⟩ = some (.slice (some ⟨h, 0, none⟩) 2 cc)) := (show Ext w _ by (repeat (first | exact Ext.refl _ | assumption | refine Ext.alloc ?_ _ | refine Ext.drewN ?_ _ | refine Ext.drew ?_))).cell' c1 zg
      have HK2 : Hid ((w.alloc (.cells #[.int .i64 s, .int .i64 P, .int .i64 Q, .slice a ll.length cap] 37)).cell? ⟨h, 0, none⟩ = some (.pointer (some ⟨ga, 0, none⟩))) := (show Ext w _ by (repeat (first | exact Ext.refl _ | assumption | refine Ext.alloc ?_ _ | refine Ext.drewN ?_ _ | refine Ext.drew ?_))).cell' c2 zh
      have HK3 : Hid ((w.alloc (.cells #[.int .i64 s, .int .i64 P, .int .i64 Q, .slice a ll.length cap] 37)).cell? ⟨h, 1, none⟩ = some (.pointer (some ⟨gb, 0, none⟩))) := (show Ext w _ by (repeat (first | exact Ext.refl _ | assumption | refine Ext.alloc ?_ _ | refine Ext.drewN ?_ _ | refine Ext.drew ?_))).cell' c3 zh
      have HB := Lib.hid (show BoxM (w.alloc (.cells #[.int .i64 s, .int .i64 P, .int .i64 Q, .slice a ll.length cap] 37)) w.heap.size s P Q (.slice a ll.length cap) by simp [BoxM, go_sem])
      go_region_held3 (fun w' => w'.cell? ⟨w.heap.size, 0, none⟩ = some (.int .i64 s) ∧ w'.cell? ⟨w.heap.size, 1, none⟩ = some (.int .i64 P) ∧ w'.cell? ⟨w.heap.size, 2, none⟩ = some (.int .i64 Q) ∧ w'.cell? ⟨w.heap.size, 3, none⟩ = some (.slice a ll.length cap) ∧ w'.cell? ⟨g, 1, none⟩ = some (.slice (some ⟨h, 0, none⟩) 2 cc) ∧ w'.cell? ⟨h, 0, none⟩ = some (.pointer (some ⟨ga, 0, none⟩)) ∧ w'.cell? ⟨h, 1, none⟩ = some (.pointer (some ⟨gb, 0, none⟩)))
        (first
          | go_keep
          | (have E := Ext.trans (Ext.drew (Ext.refl _)) yk; have hk1 := HB.out.ext E; exact ⟨hk1.1, hk1.2.1, hk1.2.2.1, hk1.2.2.2, E.cell' HK.out (by simp; omega), E.cell' HK2.out (by simp; omega), E.cell' HK3.out (by simp; omega)⟩)
          | (have E := Ext.trans (Ext.trans (Ext.drew (Ext.refl _)) yk) yl; have hk1 := HB.out.ext E; exact ⟨hk1.1, hk1.2.1, hk1.2.2.1, hk1.2.2.2, E.cell' HK.out (by simp; omega), E.cell' HK2.out (by simp; omega), E.cell' HK3.out (by simp; omega)⟩)
          | (have E := Ext.trans (Ext.trans (Ext.trans (Ext.drew (Ext.refl _)) yk) yl) ym; have hk1 := HB.out.ext E; exact ⟨hk1.1, hk1.2.1, hk1.2.2.1, hk1.2.2.2, E.cell' HK.out (by simp; omega), E.cell' HK2.out (by simp; omega), E.cell' HK3.out (by simp; omega)⟩))
        ((first
          | (go_at_call 106; have _t := yk; refine (ih2.out _ (Ext.trans (Ext.trans (show Ext w (World.drew (World.alloc w _)) by (repeat (first | exact Ext.refl _ | assumption | refine Ext.alloc ?_ _ | refine Ext.drewN ?_ _ | refine Ext.drew ?_))) yk) (Ext.refl _))).mono ?_; rintro e wl ⟨vl, rfl, ol, yl⟩; obtain ⟨al, cl, rfl, il⟩ := ol.shape; replace ik := ik.ext yl)
          | (go_at_call 106; refine (ih.out _ (by (repeat (first | exact Ext.refl _ | assumption | refine Ext.alloc ?_ _ | refine Ext.drewN ?_ _ | refine Ext.drew ?_)))).mono ?_; rintro e wk ⟨vk, rfl, ok, yk⟩; obtain ⟨ak, ck, rfl, ik⟩ := ok.shape; have hz := yk.size)
          | (go_at_call 152; refine (CP.out _ ak ck al cl ik il).mono ?_; rintro e wm ⟨vm, rfl, om, ym⟩)))
      have HX := Lib.hid (Ext.trans (Ext.trans (Ext.trans (show Ext w _ by (repeat (first | exact Ext.refl _ | assumption | refine Ext.alloc ?_ _ | refine Ext.drewN ?_ _ | refine Ext.drew ?_))) yk) yl) ym)
      have O1 := Lib.hid (om.mono (B' := w.heap.size) (by have := yl.size; simp at hz; omega))
      clear ok yk ol yl ik il om ym hz
      go_wp2
      go_ret
      exact ⟨vm, rfl, by rw [HF.out]; exact O1.out, HX.out⟩
end Go.Proofs.YtlaamecfknkmlaaGreat
namespace Go.Proofs.YtlaamecfknkmlaaGreat
set_option linter.unusedVariables false
open Go.RowKit Go.Kt

/-- The tree of the steps. -/
def treeOf (l : List Int) : Kt := (runK l []).headD (.leaf 0)
theorem treeOf_words {t : Kt} (h : t.Good) : treeOf t.words = t := by unfold treeOf; rw [runK_words t h]; rfl
theorem treeOf_valid {l : List Int} (h : kvB l = true) : (treeOf l).Good ∧ (treeOf l).words = l := by
  obtain ⟨t, hg, rfl⟩ := kvB_tree h
  rw [treeOf_words hg]; exact ⟨hg, rfl⟩
/-- RowsOf. -/
def rowsF (st p q : Int) (ll : List (List Int)) (l : List Int) : List Int := if mvB st p q ll && kvB l then (treeOf l).rows p q st.toNat ll else []
theorem box_of (w : World) (st p q : Int) (v : Value) : BoxM (w.alloc (.cells #[.int .i64 st, .int .i64 p, .int .i64 q, v] 37)) w.heap.size st p q v := by simp [BoxM, go_sem]
theorem OwnI.empty1 (w : World) (o : Obj) (E : Nat) : OwnI ((w.alloc o).alloc (.cells #[] E)) (w.heap.size + 1) E (.slice (some ⟨w.heap.size + 1, 0, none⟩) 0 0) [] := by
  have := OwnI.empty (w.alloc o) E
  rw [World.size_alloc] at this; exact this
theorem BoxM.grownI {w w' : World} {b B E : Nat} {st p q : Int} {v x : Value} {l : List Int} (h : BoxM w b st p q v) (ho : OwnI w B E x l) (hg : w.grownBy w' x.ownBlock) (hb : b < B) : BoxM w' b st p q v :=
  h.untouched (Touched.of_grown (T := w.heap.size) hg (fun g e => World.ownsRow.lt ho g e)) (.inl hb)
set_option maxRecDepth 100000 in
set_option maxHeartbeats 2000000 in
theorem iRowsOf_c (st p q : Int) (a : Option Addr) (cap : Nat) (ll : List (List Int)) (b : Option Addr) (cb : Nat) (l : List Int) (w : World) (hr : RowsAt w a ll) (hlen : ll.length ≤ 4194304) (hm : ∀ i, i < ll.length → (rowI ll i).length ≤ 4194304)
    (hb : IntsAt w b l) (hlb : l.length ≤ 1048576) :
    Calls Tryz.prog 36 #[modelV st p q a ll.length cap, .slice b l.length cb] w (RetI 3 w (rowsF st p q ll l)) := by
  have HR := Lib.hid hr
  have HM := Lib.hid hm
  have HB := Lib.hid hb
  clear hr hm hb
  cases hv : mvB st p q ll
  · have HF : Hid (rowsF st p q ll l = []) := by unfold Hid rowsF; rw [hv]; rfl
    go_enter Tryz.func36, Tryz.ntmps36
    go_wp2_with fail
    refine (iModelValid_c st p q a cap ll _ (HR.out.ext (by (repeat (first | exact Ext.refl _ | assumption | refine Ext.alloc ?_ _ | refine Ext.drewN ?_ _ | refine Ext.drew ?_)))) hlen HM.out).mono ?_
    rw [hv]
    rintro e w1 ⟨rfl, hx⟩
    have hx2 := Ext.trans (by (repeat (first | exact Ext.refl _ | assumption | refine Ext.alloc ?_ _ | refine Ext.drewN ?_ _ | refine Ext.drew ?_)) : Ext w _) hx
    clear hx
    go_wp2
    go_ret
    exact ⟨_, rfl, by rw [HF.out]; exact OwnI.nil _ _ _, hx2⟩
  · cases hs : kvB l
    · have HF : Hid (rowsF st p q ll l = []) := by unfold Hid rowsF; rw [hv, hs]; rfl
      go_enter Tryz.func36, Tryz.ntmps36
      go_wp2_with fail
      refine (iModelValid_c st p q a cap ll _ (HR.out.ext (by (repeat (first | exact Ext.refl _ | assumption | refine Ext.alloc ?_ _ | refine Ext.drewN ?_ _ | refine Ext.drew ?_)))) hlen HM.out).mono ?_
      rw [hv]
      rintro e w1 ⟨rfl, hx⟩
      have hx2 := Ext.trans (by (repeat (first | exact Ext.refl _ | assumption | refine Ext.alloc ?_ _ | refine Ext.drewN ?_ _ | refine Ext.drew ?_)) : Ext w _) hx
      clear hx
      go_wp2_with (go_at_call 67; refine (iKatValid_c b cb l _ (HB.out.ext (by (repeat (first | exact Ext.refl _ | assumption | refine Ext.alloc ?_ _ | refine Ext.drewN ?_ _ | refine Ext.drew ?_)))) (by omega)).mono ?_; rw [hs]; rintro e w' ⟨rfl, rfl⟩)
      go_ret
      exact ⟨_, rfl, by rw [HF.out]; exact OwnI.nil _ _ _, hx2⟩
    · obtain ⟨sn, P, Q, rfl, rfl, rfl, b1, b2, b3, b4, b5, b6, b7, b8⟩ := mvB_bounds hv
      obtain ⟨hg, hw⟩ := treeOf_valid hs
      have HF : Hid (rowsF sn P Q ll l = (treeOf l).rows P Q sn ll) := by unfold Hid rowsF; rw [hv, hs, Int.toNat_natCast]; rfl
      have CB : Hid (∀ w', Ext w w' → Calls Tryz.prog 69 #[.slice b l.length cb] w' (RetT w' (treeOf l))) := fun w' hx => build_c b cb l (treeOf l) w' (HB.out.ext hx) hg hw hs
      have CR : Hid (∀ w' g, Ext w w' → TreeAt w' (fun _ => False) (treeOf l) g → Calls Tryz.prog 106 #[modelV sn P Q a ll.length cap, .pointer (some ⟨g, 0, none⟩)] w' (RetI 3 w' ((treeOf l).rows P Q sn ll))) := fun w' g hx ht =>
        rows_c sn P Q a cap ll b1 b2 b5 b6 b7 b8 _ hg g w' (HR.out.ext hx) ht
      have HV := Lib.hid hv
      have HS := Lib.hid hs
      clear hv hs hg hw b7 b8
      generalize treeOf l = t at *
      go_enter Tryz.func36, Tryz.ntmps36
      go_wp2_with fail
      refine (iModelValid_c _ _ _ a cap ll _ (HR.out.ext (by (repeat (first | exact Ext.refl _ | assumption | refine Ext.alloc ?_ _ | refine Ext.drewN ?_ _ | refine Ext.drew ?_)))) hlen HM.out).mono ?_
      rw [HV.out]
      rintro e w1 ⟨rfl, hx⟩
      have hx2 := Lib.hid (Ext.trans (by (repeat (first | exact Ext.refl _ | assumption | refine Ext.alloc ?_ _ | refine Ext.drewN ?_ _ | refine Ext.drew ?_)) : Ext w _) hx)
      have hb1 := (box_of w sn P Q (.slice a ll.length cap)).ext hx
      have HB1 := Lib.hid hb1
      have zb := hb1.lt
      obtain ⟨k0, k1, k2, k3⟩ := hb1.out
      clear hx hb1
      go_wp2_with (go_at_call 67; refine (iKatValid_c b cb l _ (HB.out.ext hx2.out) (by omega)).mono ?_; rw [HS.out]; rintro e w' ⟨rfl, rfl⟩)
      go_region_held3 (fun w' => w'.cell? ⟨w.heap.size, 0, none⟩ = some (.int .i64 sn) ∧ w'.cell? ⟨w.heap.size, 1, none⟩ = some (.int .i64 P) ∧ w'.cell? ⟨w.heap.size, 2, none⟩ = some (.int .i64 Q) ∧ w'.cell? ⟨w.heap.size, 3, none⟩ = some (.slice a ll.length cap))
        (first
          | go_keep
          | (have E := Ext.trans (Ext.drew (Ext.refl _)) yk; have hk1 := HB1.out.ext E; exact ⟨hk1.1, hk1.2.1, hk1.2.2.1, hk1.2.2.2⟩)
          | (have E := Ext.trans (Ext.trans (Ext.drew (Ext.refl _)) yk) yl; have hk1 := HB1.out.ext E; exact ⟨hk1.1, hk1.2.1, hk1.2.2.1, hk1.2.2.2⟩))
        ((first
          | (go_at_call 69; refine (CB.out _ (hx2.out.trans (by (repeat (first | exact Ext.refl _ | assumption | refine Ext.alloc ?_ _ | refine Ext.drewN ?_ _ | refine Ext.drew ?_))))).mono ?_; rintro e wk ⟨g, rfl, tk, yk⟩)
          | (go_at_call 106; refine (CR.out _ g (Ext.trans (hx2.out.trans (by (repeat (first | exact Ext.refl _ | assumption | refine Ext.alloc ?_ _ | refine Ext.drewN ?_ _ | refine Ext.drew ?_)))) yk) tk).mono ?_; rintro e wl ⟨vl, rfl, ol, yl⟩)))
      have HX := Lib.hid (Ext.trans (Ext.trans (hx2.out.trans (by (repeat (first | exact Ext.refl _ | assumption | refine Ext.alloc ?_ _ | refine Ext.drewN ?_ _ | refine Ext.drew ?_)))) yk) yl)
      have O1 := Lib.hid (ol.mono (B' := w.heap.size) (by have := yk.size; have := hx2.out.size; simp at *; omega))
      clear yk ol yl tk
      go_wp2
      go_ret
      exact ⟨vl, rfl, by rw [HF.out]; exact O1.out, HX.out⟩

theorem two_halves (b off cap : Nat) (x : Int) (a c : Kt) (hc : c.Good) (w : World) (hl : IntsAt w (some ⟨b, off, none⟩) (Kt.two x a c).words) (hcap : (Kt.two x a c).words.length ≤ cap) (h40 : (Kt.two x a c).words.length ≤ 4194304) :
    Calls Tryz.prog 143 #[.slice (some ⟨b, off, none⟩) (a.words.length + c.words.length + 1) cap] w fun e w'' => e = .returned (.tuple #[.slice (some ⟨b, off, none⟩) a.words.length cap, .slice (some ⟨b, off + a.words.length, none⟩) c.words.length (cap - a.words.length)]) ∧ w'' = w.drew := by
  have hlen : (Kt.two x a c).words.length = a.words.length + c.words.length + 1 := by simp [Kt.words]; omega
  rw [← hlen]
  exact l2Halves_c b off cap (Kt.two x a c).words c a.words.length w hl hc (SegK.right (xs := a.words) (SegK.left (xs := a.words ++ c.words) (ys := [x]) (fun i _ => by rw [Nat.zero_add]; rfl)) |> fun h => by rwa [Nat.zero_add] at h) (by rw [hlen]) hcap h40
set_option maxRecDepth 100000 in
set_option maxHeartbeats 4000000 in
theorem l7Rows_c (s P Q : Nat) (a : Option Addr) (cap : Nat) (ll : List (List Int)) (h1 : 1 ≤ s) (h5 : s ≤ 5) (hP : P < 4294967296) (hQ : Q < 4294967296) (h3 : Hid (ll.length = 3)) (hv : Hid (mvB s P Q ll = true)) (hrv : Hid (∀ i, i < 3 → rvB s (rowI ll i) = true)) :
    ∀ (t : Kt), t.Good → ∀ (b off cb : Nat) (w : World), RowsAt w a ll → IntsAt w (some ⟨b, off, none⟩) t.words → t.words.length ≤ cb → t.words.length ≤ 40 →
      Calls Tryz.prog 85 #[modelV s P Q a ll.length cap, .slice (some ⟨b, off, none⟩) t.words.length cb] w (RetI 3 w (t.rows P Q s ll))
  | .leaf x, hg, b, off, cb, w, hr, hl, hcb, h40 => by
    have hg : 0 ≤ x ∧ x ≤ 18 := hg
    obtain ⟨hc, zb⟩ := IntsAt.at_ (xs := []) (ys := []) hl
    have HR := Lib.hid hr
    have hlen3 : 0 < ll.length := by rw [h3.out]; omega
    have hll4 : ll.length ≤ 4194304 := by rw [h3.out]; omega
    have HM : Hid (∀ i, i < ll.length → (rowI ll i).length ≤ 4194304) := fun i hi => by have := rvB_sets (hrv.out i (by rw [← h3.out]; exact hi)); omega
    simp only [Kt.words, List.length_nil, Nat.add_zero, List.length_cons, Nat.zero_add] at hc hcb ⊢
    clear hr hl h40
    by_cases h15 : x ≤ 15
    · obtain ⟨X, rfl⟩ := Int.eq_ofNat_of_zero_le hg.1
      have hX : X < 65536 := by omega
      have HF : Hid ((Kt.leaf (X : Int)).rows P Q s ll = testL P Q X s s) := by unfold Hid; simp only [Kt.rows]; rw [if_pos h15, Int.toNat_natCast]
      have hts := tsTo_lt P Q X s
      have ht32 : tsTo P Q X s < 32 := Nat.lt_of_lt_of_le hts (Nat.pow_le_pow_right (by decide) h5)
      have CT : Hid (∀ w', Ext w w' → Calls Tryz.prog 141 #[modelV s P Q a ll.length cap, .int .i64 X] w' fun e w'' => e = .returned (.int .i64 (tsTo P Q X s : Nat)) ∧ Ext w' w'') := fun w' hx => by
        have := sTestStates_c s P Q a cap ll X w' (HR.out.ext hx) hll4 HM.out
        have hF : testF s P Q ll X = ((tsTo P Q X s : Nat) : Int) := by unfold testF; rw [hv.out, show inB (X : Int) 0 15 = true by simp [inB]; omega, Int.toNat_natCast, Int.toNat_natCast]; rfl
        rw [hF] at this; exact this
      have HT : Hid (∀ k, testRow P Q X s k = if (tsTo P Q X s).testBit k then pow2 k else 0) := fun k => rfl
      have HS : Hid (∀ k, testL P Q X s (k + 1) = testL P Q X s k ++ [((testRow P Q X s k : Nat) : Int)]) := fun k => testL_succ P Q X s k
      have HL : Hid (∀ k, (testL P Q X s k).length = k) := fun k => testL_length P Q X s k
      clear hg hts
      generalize tsTo P Q X s = T at *
      have HE := Lib.hid (OwnI.empty1 w (.cells #[.int .i64 s, .int .i64 P, .int .i64 Q, .slice a ll.length cap] 37) 3)
      go_enter Tryz.func85, Tryz.ntmps85
      go_wp2
      go_loopw [7, 8] (fun v i wr => Hid (∃ k : Nat, k ≤ s ∧ i = .int .i64 k ∧ OwnI wr (w.heap.size + 1) 3 v (testL P Q X s k) ∧ BoxM wr w.heap.size s P Q (.slice a ll.length cap) ∧ Ext w wr)) (fun _ i _ => s - (intOf i).toNat)
      case atStart => exact Lib.hid ⟨0, Nat.zero_le _, rfl, HE.out, (box_of w s P Q (.slice a ll.length cap)).ext (by (repeat (first | exact Ext.refl _ | assumption | refine Ext.alloc ?_ _ | refine Ext.drewN ?_ _ | refine Ext.drew ?_))), by (repeat (first | exact Ext.refl _ | assumption | refine Ext.alloc ?_ _ | refine Ext.drewN ?_ _ | refine Ext.drew ?_))⟩
      case round =>
        obtain ⟨k, hk, rfl, ho, hbx, hx⟩ := hrel.out
        clear hrel
        have HO := Lib.hid ho
        have HBX := Lib.hid hbx
        have HX := Lib.hid hx
        obtain ⟨k0, k1, k2, k3⟩ := hbx.out
        have zbx := hbx.lt
        clear ho hbx hx
        by_cases hlt : k < s
        · have hpc := pow2_cast k
          have hp1 : pow2 k ≤ 16 := pow2_le k 4 (by omega)
          have hRow := Lib.hid (HT.out k)
          have hSucc := Lib.hid (HS.out k)
          have hLen := Lib.hid (HL.out k)
          go_wp2_with fail
          refine (CT.out _ (HX.out.trans (by (repeat (first | exact Ext.refl _ | assumption | refine Ext.alloc ?_ _ | refine Ext.drewN ?_ _ | refine Ext.drew ?_))))).mono ?_
          rintro e w1 ⟨rfl, y⟩
          have HX1 := Lib.hid (HX.out.trans (Ext.trans (by (repeat (first | exact Ext.refl _ | assumption | refine Ext.alloc ?_ _ | refine Ext.drewN ?_ _ | refine Ext.drew ?_))) y))
          have HO1 := Lib.hid (HO.out.ext (Ext.trans (by (repeat (first | exact Ext.refl _ | assumption | refine Ext.alloc ?_ _ | refine Ext.drewN ?_ _ | refine Ext.drew ?_))) y))
          have HBX1 := Lib.hid (HBX.out.ext (Ext.trans (by (repeat (first | exact Ext.refl _ | assumption | refine Ext.alloc ?_ _ | refine Ext.drewN ?_ _ | refine Ext.drew ?_))) y))
          clear y k0 k1 k2 k3
          cases hb : T.testBit k
          all_goals
            rw [hb] at hRow
            go_wp2_with fail
            refine (l1Bit_c _ _ _ (by omega) (by omega)).mono ?_
            rw [hb]
            rintro e w2 ⟨rfl, rfl⟩
            go_wp2_with (at_builtin; refine append_int rfl _ _ _ rfl (w.heap.size + 1) 3 Tryz.underlying23 infoInt _ (testL P Q X s k) rfl ?ho _ (((testRow P Q X s k : Nat) : Int)) rfl ?hc ?c1 ?c2 ?_)
            case ho => exact HO1.out.ext (by (repeat (first | exact Ext.refl _ | assumption | refine Ext.alloc ?_ _ | refine Ext.drewN ?_ _ | refine Ext.drew ?_)))
            try (case hc => first | exact (by rw [hRow.out]; simp [go_sem]) | simp)
            case c1 => rw [hLen.out]; omega
            case c2 => have := HX1.out.size; simp; omega
            intro v' w' ho' hg
            have hE := Lib.hid (OwnI.grown ((HO1.out.mono (B' := w.heap.size) (by omega)).ext (by (repeat (first | exact Ext.refl _ | assumption | refine Ext.alloc ?_ _ | refine Ext.drewN ?_ _ | refine Ext.drew ?_)))) (HX1.out.trans (by (repeat (first | exact Ext.refl _ | assumption | refine Ext.alloc ?_ _ | refine Ext.drewN ?_ _ | refine Ext.drew ?_)))) hg)
            have hB2 := Lib.hid (BoxM.grownI (HBX1.out.ext (by (repeat (first | exact Ext.refl _ | assumption | refine Ext.alloc ?_ _ | refine Ext.drewN ?_ _ | refine Ext.drew ?_)))) (HO1.out.ext (by (repeat (first | exact Ext.refl _ | assumption | refine Ext.alloc ?_ _ | refine Ext.drewN ?_ _ | refine Ext.drew ?_)))) hg (by omega))
            have HO2 := Lib.hid ho'
            clear ho' hg
            go_wp2
            go_roundw
            case rel => exact Lib.hid ⟨k + 1, by omega, by go_num, by rw [hSucc.out]; exact HO2.out, hB2.out, hE.out⟩
            case measure => simp [intOf]; omega
        · obtain rfl : k = s := by omega
          go_wp2
          go_ret
          exact ⟨_, rfl, by rw [HF.out]; exact HO.out.mono (by omega), HX.out⟩
    · obtain ⟨y, hy⟩ : ∃ y : Nat, x = 16 + (y : Int) := ⟨(x - 16).toNat, by omega⟩
      have hy3 : y < 3 := by omega
      subst hy
      have hyl : y < ll.length := by rw [h3.out]; exact hy3
      obtain ⟨bb, off', h8, h9⟩ := HR.out
      obtain ⟨rfl, hb⟩ := h8 hlen3
      obtain ⟨ai, ci, kr, hri⟩ := h9 y hyl
      have zi : bb < w.heap.size := hb
      have hri2 := Lib.hid hri
      have hrl := rvB_sets (hrv.out y hy3)
      have hr5 : (rowI ll y).length ≤ 5 := hrl.2.2.2
      have HF : Hid ((Kt.leaf (16 + (y : Int))).rows P Q s ll = rowI ll y) := by
        unfold Hid; simp only [Kt.rows]; rw [if_neg h15, show (16 + (y : Int)).toNat - 16 = y by omega]
      have hw16 : IntKind.i64.wrap (16 + (y : Int) - 16) = (y : Int) := by rw [IntWalk.i64_in _ (by omega)]; omega
      clear h8 h9 hri hrl hg h15 HR
      go_enter Tryz.func85, Tryz.ntmps85
      go_wp2_with (at_builtin; refine any_append_ints (by rfl) _ _ _ rfl w.heap.size 3 Tryz.underlying23 infoInt _ [] rfl ?ho _ _ (rowI ll y) rfl ?hi ?hc ?hB ?_)
      case ho => exact (OwnI.empty1 _ _ _).mono (by omega)
      case hi => exact hri2.out.ext (by (repeat (first | exact Ext.refl _ | assumption | refine Ext.alloc ?_ _ | refine Ext.drewN ?_ _ | refine Ext.drew ?_)))
      case hc => simp; omega
      case hB => simp; omega
      intro v' w' ho' hg'
      have hx' := Lib.hid (OwnI.grown (w0 := w) ((OwnI.empty1 _ _ _).mono (by omega)) (by (repeat (first | exact Ext.refl _ | assumption | refine Ext.alloc ?_ _ | refine Ext.drewN ?_ _ | refine Ext.drew ?_))) hg')
      have HO := Lib.hid ho'
      clear ho' hg'
      go_wp2
      go_ret
      exact ⟨_, rfl, by rw [HF.out]; exact HO.out, hx'.out⟩
  | .star c, hg, b, off, cb, w, hr, hl, hcb, h40 => by
    obtain ⟨hc, zb⟩ := IntsAt.at_ (xs := c.words) (ys := []) hl
    have hla := Lib.hid (IntsAt.left (xs := c.words) hl)
    have HR := Lib.hid hr
    have hlen : (Kt.star c).words.length = c.words.length + 1 := by simp [Kt.words]
    rw [hlen] at hcb h40 ⊢
    have hrel := c.rows_rel P Q s ll (by omega) (fun i hi => rvB_relK (hrv.out i hi)) hg
    obtain ⟨q, hq⟩ : ∃ q, q = c.words.length := ⟨_, rfl⟩
    have ih : Hid (∀ w', Ext w w' → Calls Tryz.prog 85 #[modelV s P Q a ll.length cap, .slice (some ⟨b, off, none⟩) q cb] w' (RetI 3 w' (c.rows P Q s ll))) := fun w' hx => by
      rw [hq]; exact l7Rows_c s P Q a cap ll h1 h5 hP hQ h3 hv hrv c hg b off cb w' (HR.out.ext hx) (hla.out.ext hx) (by omega) (by omega)
    have HF : Hid ((Kt.star c).rows P Q s ll = starTo (c.rows P Q s ll) (c.rows P Q s ll).length) := rfl
    have hll := hrel.len
    generalize c.rows P Q s ll = la at *
    have CT : Hid (∀ w' ak ck, IntsAt w' ak la → Calls Tryz.prog 142 #[.int .i64 s, .slice ak la.length ck] w' (RetI 3 w' (starTo la la.length))) := fun w' ak ck hi => by
      rw [← starF_rel h1 h5 hrel]; exact sRowsStar_c s ak ck la w' hi (by omega)
    rw [← hq] at hc hcb h40 ⊢
    clear hg hr hrel hll hl hla hlen hq
    have hw1 : IntKind.i64.wrap ((q : Int) + 1 - 1) = (q : Int) := by rw [IntWalk.i64_in _ (by omega)]; omega
    have hqc : (q : Int) ≤ cb := by omega
    go_enter Tryz.func85, Tryz.ntmps85
    go_wp2
    have HBX := Lib.hid (box_of w s P Q (.slice a ll.length cap))
    go_region_held3 (fun w' => w'.cell? ⟨w.heap.size, 0, none⟩ = some (.int .i64 s) ∧ w'.cell? ⟨w.heap.size, 1, none⟩ = some (.int .i64 P) ∧ w'.cell? ⟨w.heap.size, 2, none⟩ = some (.int .i64 Q) ∧ w'.cell? ⟨w.heap.size, 3, none⟩ = some (.slice a ll.length cap))
      (first
        | go_keep
        | (have E := Ext.trans (Ext.drew (Ext.refl _)) yk; have hk1 := HBX.out.ext E; exact ⟨hk1.1, hk1.2.1, hk1.2.2.1, hk1.2.2.2⟩)
        | (have E := Ext.trans (Ext.trans (Ext.drew (Ext.refl _)) yk) yl; have hk1 := HBX.out.ext E; exact ⟨hk1.1, hk1.2.1, hk1.2.2.1, hk1.2.2.2⟩))
      ((first
        | (go_at_call 85; refine (ih.out _ (by (repeat (first | exact Ext.refl _ | assumption | refine Ext.alloc ?_ _ | refine Ext.drewN ?_ _ | refine Ext.drew ?_)))).mono ?_; rintro e wk ⟨vk, rfl, ok, yk⟩; obtain ⟨ak, ck, rfl, ik⟩ := ok.shape)
        | (go_at_call 142; refine (CT.out _ ak ck ik).mono ?_; rintro e wl ⟨vl, rfl, ol, yl⟩)))
    have HX := Lib.hid (Ext.trans (Ext.trans (show Ext w _ by (repeat (first | exact Ext.refl _ | assumption | refine Ext.alloc ?_ _ | refine Ext.drewN ?_ _ | refine Ext.drew ?_))) yk) yl)
    have O1 := Lib.hid (ol.mono (B' := w.heap.size) (by have := yk.size; simp at this; omega))
    clear ok yk ol yl ik
    go_wp2
    go_ret
    exact ⟨vl, rfl, by rw [HF.out]; exact O1.out, HX.out⟩
  | .two x c d, hg, b, off, cb, w, hr, hl, hcb, h40 => by
    obtain ⟨hc, zb⟩ := IntsAt.at_ (xs := c.words ++ d.words) (ys := []) hl
    have hla := Lib.hid (IntsAt.left (xs := c.words) (IntsAt.left (xs := c.words ++ d.words) hl))
    have hlc := Lib.hid (IntsAt.right (xs := c.words) (IntsAt.left (xs := c.words ++ d.words) hl))
    have HR := Lib.hid hr
    have hlen : (Kt.two x c d).words.length = c.words.length + d.words.length + 1 := by simp [Kt.words]; omega
    have hH : Hid (∀ w', Ext w w' → Calls Tryz.prog 143 #[.slice (some ⟨b, off, none⟩) (c.words.length + d.words.length + 1) cb] w' fun e w'' => e = .returned (.tuple #[.slice (some ⟨b, off, none⟩) c.words.length cb, .slice (some ⟨b, off + c.words.length, none⟩) d.words.length (cb - c.words.length)]) ∧ w'' = w'.drew) := fun w' hx => 
      two_halves b off cb x c d hg.2.2 w' (hl.ext hx) hcb (by omega)
    rw [hlen] at hcb h40 ⊢
    rw [List.length_append] at hc
    have hrel := c.rows_rel P Q s ll (by omega) (fun i hi => rvB_relK (hrv.out i hi)) hg.2.1
    have hrel2 := d.rows_rel P Q s ll (by omega) (fun i hi => rvB_relK (hrv.out i hi)) hg.2.2
    obtain ⟨q, hq⟩ : ∃ q, q = c.words.length := ⟨_, rfl⟩
    obtain ⟨r, hr'⟩ : ∃ r, r = d.words.length := ⟨_, rfl⟩
    have ih : Hid (∀ w', Ext w w' → Calls Tryz.prog 85 #[modelV s P Q a ll.length cap, .slice (some ⟨b, off, none⟩) q cb] w' (RetI 3 w' (c.rows P Q s ll))) := fun w' hx => by
      rw [hq]; exact l7Rows_c s P Q a cap ll h1 h5 hP hQ h3 hv hrv c hg.2.1 b off cb w' (HR.out.ext hx) (hla.out.ext hx) (by omega) (by omega)
    have ih2 : Hid (∀ w', Ext w w' → Calls Tryz.prog 85 #[modelV s P Q a ll.length cap, .slice (some ⟨b, off + q, none⟩) r (cb - q)] w' (RetI 3 w' (d.rows P Q s ll))) := fun w' hx => by
      rw [hq, hr']; exact l7Rows_c s P Q a cap ll h1 h5 hP hQ h3 hv hrv d hg.2.2 b (off + c.words.length) (cb - c.words.length) w' (HR.out.ext hx) (hlc.out.ext hx) (by omega) (by omega)
    have HF : Hid ((Kt.two 20 c d).rows P Q s ll = plusTo (c.rows P Q s ll) (d.rows P Q s ll) (c.rows P Q s ll).length) := rfl
    have HF2 : Hid ((Kt.two 19 c d).rows P Q s ll = thenTo (c.rows P Q s ll) (d.rows P Q s ll) (c.rows P Q s ll).length) := rfl
    have hll := hrel.len
    have hll2 := hrel2.len
    have hx : x = 19 ∨ x = 20 := hg.1
    generalize c.rows P Q s ll = la at *
    generalize d.rows P Q s ll = lb at *
    have CP : Hid (∀ w' ak ck al cl, IntsAt w' ak la → IntsAt w' al lb → Calls Tryz.prog 144 #[.int .i64 s, .slice ak la.length ck, .slice al lb.length cl] w' (RetI 3 w' (plusTo la lb la.length))) := fun w' ak ck al cl hi hj => by
      rw [← plusF_rel h1 h5 hrel hrel2]; exact sRowsPlus_c s ak al ck cl la lb w' hi hj (by omega) (by omega)
    have CT : Hid (∀ w' ak ck al cl, IntsAt w' ak la → IntsAt w' al lb → Calls Tryz.prog 102 #[.int .i64 s, .slice ak la.length ck, .slice al lb.length cl] w' (RetI 3 w' (thenTo la lb la.length))) := fun w' ak ck al cl hi hj => by
      rw [← thenF_rel h1 h5 hrel hrel2]; exact sRowsThen_c s ak al ck cl la lb w' hi hj (by omega) (by omega)
    rw [← hq, ← hr'] at hc hcb h40 hH ⊢
    clear hg hr hrel hrel2 hll hll2 hl hla hlc hlen hq hr'
    have hw1 : IntKind.i64.wrap ((q : Int) + r + 1 - 1) = (q : Int) + r := by rw [IntWalk.i64_in _ (by omega)]; omega
    have hqc : (q : Int) + r ≤ cb := by omega
    have hrn : ((q : Int) + r).toNat = q + r := by omega
    rcases hx with rfl | rfl
    · go_enter Tryz.func85, Tryz.ntmps85
      go_wp2_with fail
      refine (hH.out _ (by (repeat (first | exact Ext.refl _ | assumption | refine Ext.alloc ?_ _ | refine Ext.drewN ?_ _ | refine Ext.drew ?_)))).mono ?_
      rintro e w1 ⟨rfl, rfl⟩
      go_wp2
      have HBX := Lib.hid ((box_of w s P Q (.slice a ll.length cap)).ext (w' := (w.alloc (.cells #[.int .i64 s, .int .i64 P, .int .i64 Q, .slice a ll.length cap] 37)).drew) (by (repeat (first | exact Ext.refl _ | assumption | refine Ext.alloc ?_ _ | refine Ext.drewN ?_ _ | refine Ext.drew ?_))))
      go_region_held3 (fun w' => w'.cell? ⟨w.heap.size, 0, none⟩ = some (.int .i64 s) ∧ w'.cell? ⟨w.heap.size, 1, none⟩ = some (.int .i64 P) ∧ w'.cell? ⟨w.heap.size, 2, none⟩ = some (.int .i64 Q) ∧ w'.cell? ⟨w.heap.size, 3, none⟩ = some (.slice a ll.length cap))
        (first
          | go_keep
          | (have E := Ext.trans (Ext.drew (Ext.refl _)) yk; have hk1 := HBX.out.ext E; exact ⟨hk1.1, hk1.2.1, hk1.2.2.1, hk1.2.2.2⟩)
          | (have E := Ext.trans (Ext.trans (Ext.drew (Ext.refl _)) yk) yl; have hk1 := HBX.out.ext E; exact ⟨hk1.1, hk1.2.1, hk1.2.2.1, hk1.2.2.2⟩)
          | (have E := Ext.trans (Ext.trans (Ext.trans (Ext.drew (Ext.refl _)) yk) yl) ym; have hk1 := HBX.out.ext E; exact ⟨hk1.1, hk1.2.1, hk1.2.2.1, hk1.2.2.2⟩))
        ((first
          | (go_at_call 85; have _t := yk; refine (ih2.out _ (Ext.trans (Ext.trans (by (repeat (first | exact Ext.refl _ | assumption | refine Ext.alloc ?_ _ | refine Ext.drewN ?_ _ | refine Ext.drew ?_))) yk) (Ext.refl _))).mono ?_; rintro e wl ⟨vl, rfl, ol, yl⟩; obtain ⟨al, cl, rfl, il⟩ := ol.shape; replace ik := ik.ext yl)
          | (go_at_call 85; refine (ih.out _ (by (repeat (first | exact Ext.refl _ | assumption | refine Ext.alloc ?_ _ | refine Ext.drewN ?_ _ | refine Ext.drew ?_)))).mono ?_; rintro e wk ⟨vk, rfl, ok, yk⟩; obtain ⟨ak, ck, rfl, ik⟩ := ok.shape; have hz := yk.size)
          | (go_at_call 102; refine (CT.out _ ak ck al cl ik il).mono ?_; rintro e wm ⟨vm, rfl, om, ym⟩)))
      have HX := Lib.hid (Ext.trans (Ext.trans (Ext.trans (show Ext w _ by (repeat (first | exact Ext.refl _ | assumption | refine Ext.alloc ?_ _ | refine Ext.drewN ?_ _ | refine Ext.drew ?_))) yk) yl) ym)
      have O1 := Lib.hid (om.mono (B' := w.heap.size) (by have := yl.size; simp at hz; omega))
      clear ok yk ol yl ik il om ym hz
      go_wp2
      go_ret
      exact ⟨vm, rfl, by rw [HF2.out]; exact O1.out, HX.out⟩
    · go_enter Tryz.func85, Tryz.ntmps85
      go_wp2_with fail
      refine (hH.out _ (by (repeat (first | exact Ext.refl _ | assumption | refine Ext.alloc ?_ _ | refine Ext.drewN ?_ _ | refine Ext.drew ?_)))).mono ?_
      rintro e w1 ⟨rfl, rfl⟩
      go_wp2
      have HBX := Lib.hid ((box_of w s P Q (.slice a ll.length cap)).ext (w' := (w.alloc (.cells #[.int .i64 s, .int .i64 P, .int .i64 Q, .slice a ll.length cap] 37)).drew) (by (repeat (first | exact Ext.refl _ | assumption | refine Ext.alloc ?_ _ | refine Ext.drewN ?_ _ | refine Ext.drew ?_))))
      go_region_held3 (fun w' => w'.cell? ⟨w.heap.size, 0, none⟩ = some (.int .i64 s) ∧ w'.cell? ⟨w.heap.size, 1, none⟩ = some (.int .i64 P) ∧ w'.cell? ⟨w.heap.size, 2, none⟩ = some (.int .i64 Q) ∧ w'.cell? ⟨w.heap.size, 3, none⟩ = some (.slice a ll.length cap))
        (first
          | go_keep
          | (have E := Ext.trans (Ext.drew (Ext.refl _)) yk; have hk1 := HBX.out.ext E; exact ⟨hk1.1, hk1.2.1, hk1.2.2.1, hk1.2.2.2⟩)
          | (have E := Ext.trans (Ext.trans (Ext.drew (Ext.refl _)) yk) yl; have hk1 := HBX.out.ext E; exact ⟨hk1.1, hk1.2.1, hk1.2.2.1, hk1.2.2.2⟩)
          | (have E := Ext.trans (Ext.trans (Ext.trans (Ext.drew (Ext.refl _)) yk) yl) ym; have hk1 := HBX.out.ext E; exact ⟨hk1.1, hk1.2.1, hk1.2.2.1, hk1.2.2.2⟩))
        ((first
          | (go_at_call 85; have _t := yk; refine (ih2.out _ (Ext.trans (Ext.trans (by (repeat (first | exact Ext.refl _ | assumption | refine Ext.alloc ?_ _ | refine Ext.drewN ?_ _ | refine Ext.drew ?_))) yk) (Ext.refl _))).mono ?_; rintro e wl ⟨vl, rfl, ol, yl⟩; obtain ⟨al, cl, rfl, il⟩ := ol.shape; replace ik := ik.ext yl)
          | (go_at_call 85; refine (ih.out _ (by (repeat (first | exact Ext.refl _ | assumption | refine Ext.alloc ?_ _ | refine Ext.drewN ?_ _ | refine Ext.drew ?_)))).mono ?_; rintro e wk ⟨vk, rfl, ok, yk⟩; obtain ⟨ak, ck, rfl, ik⟩ := ok.shape; have hz := yk.size)
          | (go_at_call 144; refine (CP.out _ ak ck al cl ik il).mono ?_; rintro e wm ⟨vm, rfl, om, ym⟩)))
      have HX := Lib.hid (Ext.trans (Ext.trans (Ext.trans (show Ext w _ by (repeat (first | exact Ext.refl _ | assumption | refine Ext.alloc ?_ _ | refine Ext.drewN ?_ _ | refine Ext.drew ?_))) yk) yl) ym)
      have O1 := Lib.hid (om.mono (B' := w.heap.size) (by have := yl.size; simp at hz; omega))
      clear ok yk ol yl ik il om ym hz
      go_wp2
      go_ret
      exact ⟨vm, rfl, by rw [HF.out]; exact O1.out, HX.out⟩
end Go.Proofs.YtlaamecfknkmlaaGreat
namespace Go.Proofs.YtlaamecfknkmlaaGreat
set_option linter.unusedVariables false
open Go.RowKit Go.Kt

/-- StrongStates. -/
def strongF (st p q : Int) (ll : List (List Int)) (x : Int) (l : List Int) : Int := if mvB st p q ll && kvB l && setB st.toNat x then ((img (rowsF st p q ll l) x.toNat : Nat) : Int) else -1
theorem rowsF_rel {sn P Q : Nat} {ll : List (List Int)} {l : List Int} (hv : mvB sn P Q ll = true) (hs : kvB l = true) : Rel sn (rowsF sn P Q ll l) := by
  have HF : rowsF sn P Q ll l = (treeOf l).rows P Q sn ll := by unfold rowsF; rw [hv, hs, Int.toNat_natCast]; rfl
  rw [HF]
  obtain ⟨s', P', Q', e1, e2, e3, b1, b2, b3, b4, b5, b6, b7, b8⟩ := mvB_bounds hv
  obtain rfl : sn = s' := by omega
  exact Kt.rows_rel P Q sn ll (by omega) (fun i hi => rvB_relK (b8 i hi)) _ (treeOf_valid hs).1
set_option maxRecDepth 100000 in
set_option maxHeartbeats 2000000 in
theorem iStrongStates_c (st p q : Int) (a : Option Addr) (cap : Nat) (ll : List (List Int)) (x : Int) (b : Option Addr) (cb : Nat) (l : List Int) (w : World) (hr : RowsAt w a ll) (hlen : ll.length ≤ 4194304) (hm : ∀ i, i < ll.length → (rowI ll i).length ≤ 4194304)
    (hb : IntsAt w b l) (hlb : l.length ≤ 1048576) :
    Calls Tryz.prog 19 #[modelV st p q a ll.length cap, .int .i64 x, .slice b l.length cb] w fun e w' => e = .returned (.int .i64 (strongF st p q ll x l)) ∧ Ext w w' := by
  have HR := Lib.hid hr
  have HM := Lib.hid hm
  have HB := Lib.hid hb
  clear hr hm hb
  cases hv : mvB st p q ll
  · have HF : Hid (strongF st p q ll x l = -1) := by unfold Hid strongF; rw [hv]; rfl
    go_enter Tryz.func19, Tryz.ntmps19
    go_wp2_with fail
    refine (iModelValid_c st p q a cap ll _ (HR.out.ext (by (repeat (first | exact Ext.refl _ | assumption | refine Ext.alloc ?_ _ | refine Ext.drewN ?_ _ | refine Ext.drew ?_)))) hlen HM.out).mono ?_
    rw [hv]
    rintro e w1 ⟨rfl, hx⟩
    have hx2 := Ext.trans (by (repeat (first | exact Ext.refl _ | assumption | refine Ext.alloc ?_ _ | refine Ext.drewN ?_ _ | refine Ext.drew ?_)) : Ext w _) hx
    clear hx
    go_wp2
    go_ret
    exact ⟨by rw [HF.out]; rfl, hx2⟩
  · cases hs : kvB l
    · have HF : Hid (strongF st p q ll x l = -1) := by unfold Hid strongF; rw [hv, hs]; rfl
      go_enter Tryz.func19, Tryz.ntmps19
      go_wp2_with fail
      refine (iModelValid_c st p q a cap ll _ (HR.out.ext (by (repeat (first | exact Ext.refl _ | assumption | refine Ext.alloc ?_ _ | refine Ext.drewN ?_ _ | refine Ext.drew ?_)))) hlen HM.out).mono ?_
      rw [hv]
      rintro e w1 ⟨rfl, hx⟩
      have hx2 := Ext.trans (by (repeat (first | exact Ext.refl _ | assumption | refine Ext.alloc ?_ _ | refine Ext.drewN ?_ _ | refine Ext.drew ?_)) : Ext w _) hx
      clear hx
      go_wp2_with fail
      refine (iKatValid_c b cb l _ (HB.out.ext (by (repeat (first | exact Ext.refl _ | assumption | refine Ext.alloc ?_ _ | refine Ext.drewN ?_ _ | refine Ext.drew ?_)))) (by omega)).mono ?_
      rw [hs]
      rintro e w' ⟨rfl, rfl⟩
      go_wp2
      go_ret
      exact ⟨by rw [HF.out]; rfl, hx2⟩
    · have HV := Lib.hid hv
      have HS := Lib.hid hs
      obtain ⟨sn, P, Q, rfl, rfl, rfl, b1, b2, b3, b4, b5, b6, b7, b8⟩ := mvB_bounds hv
      have hp32 := pow_le_32 sn b2
      have hq1 := pow_pos' sn
      have CR : Hid (∀ w', Ext w w' → Calls Tryz.prog 36 #[modelV sn P Q a ll.length cap, .slice b l.length cb] w' (RetI 3 w' (rowsF sn P Q ll l))) := fun w' hx => iRowsOf_c _ _ _ a cap ll b cb l w' (HR.out.ext hx) hlen HM.out (HB.out.ext hx) hlb
      have hrel : Rel sn (rowsF sn P Q ll l) := rowsF_rel HV.out HS.out
      have hrl := hrel.len
      have hrs := Lib.hid hrel.sets
      have hS4 : setB sn x = decide (0 ≤ x ∧ x < 2 ^ sn) := rfl
      have HFS : Hid (strongF sn P Q ll x l = if setB sn x then ((img (rowsF sn P Q ll l) x.toNat : Nat) : Int) else -1) := by unfold Hid strongF; rw [HV.out, HS.out, Int.toNat_natCast]; rfl
      have hin : inB x 0 ((2 : Int) ^ sn - 1) = setB sn x := by rw [hS4]; unfold inB; rw [Bool.eq_iff_iff, decide_eq_true_eq, decide_eq_true_eq]; omega
      have hwr : IntKind.i64.wrap ((2 : Int) ^ sn - 1) = (2 : Int) ^ sn - 1 := IntWalk.i64_in _ (by omega)
      clear hv hs b7 b8 hrel
      cases hsx : setB sn x
      · have HF : Hid (strongF sn P Q ll x l = -1) := by unfold Hid; rw [HFS.out, hsx]; rfl
        rw [hsx] at hin
        clear HFS hS4
        have HSX := Lib.hid hsx
        have HIN := Lib.hid hin
        clear hsx hin
        go_enter Tryz.func19, Tryz.ntmps19
        go_wp2_with fail
        refine (iModelValid_c _ _ _ a cap ll _ (HR.out.ext (by (repeat (first | exact Ext.refl _ | assumption | refine Ext.alloc ?_ _ | refine Ext.drewN ?_ _ | refine Ext.drew ?_)))) hlen HM.out).mono ?_
        rw [HV.out]
        rintro e w1 ⟨rfl, hx⟩
        have hx2 := Lib.hid (Ext.trans (by (repeat (first | exact Ext.refl _ | assumption | refine Ext.alloc ?_ _ | refine Ext.drewN ?_ _ | refine Ext.drew ?_)) : Ext w _) hx)
        have hb1 := (box_of w sn P Q (.slice a ll.length cap)).ext hx
        have zb := hb1.lt
        obtain ⟨k0, k1, k2, k3⟩ := hb1.out
        clear hx hb1
        go_wp2_with fail
        refine (iKatValid_c _ cb l _ (HB.out.ext hx2.out) (by omega)).mono ?_
        rw [HS.out]
        rintro e w' ⟨rfl, rfl⟩
        go_wp2_with fail
        refine (isSet_c _ x _ b2).mono ?_
        rw [HSX.out]
        rintro e w' ⟨rfl, rfl⟩
        go_wp2
        go_ret
        exact ⟨by rw [HF.out]; rfl, hx2.out⟩
      · rw [hsx] at hS4
        have hx0 : 0 ≤ x ∧ x < 2 ^ sn := by simpa using hS4.symm
        obtain ⟨X, rfl⟩ := Int.eq_ofNat_of_zero_le hx0.1
        have hX : X < 4294967296 := by omega
        have HF : Hid (strongF sn P Q ll X l = ((img (rowsF sn P Q ll l) X : Nat) : Int)) := by unfold Hid; rw [HFS.out, hsx, Int.toNat_natCast]; rfl
        rw [hsx] at hin
        have HSX := Lib.hid hsx
        have HIN := Lib.hid hin
        have hl32 : (rowsF sn P Q ll l).length ≤ 32 := by omega
        clear hsx hin HFS hS4 hrl
        generalize rowsF sn P Q ll l = R at *
        go_enter Tryz.func19, Tryz.ntmps19
        go_wp2_with fail
        refine (iModelValid_c _ _ _ a cap ll _ (HR.out.ext (by (repeat (first | exact Ext.refl _ | assumption | refine Ext.alloc ?_ _ | refine Ext.drewN ?_ _ | refine Ext.drew ?_)))) hlen HM.out).mono ?_
        rw [HV.out]
        rintro e w1 ⟨rfl, hx⟩
        have hx2 := Lib.hid (Ext.trans (by (repeat (first | exact Ext.refl _ | assumption | refine Ext.alloc ?_ _ | refine Ext.drewN ?_ _ | refine Ext.drew ?_)) : Ext w _) hx)
        have hb1 := (box_of w sn P Q (.slice a ll.length cap)).ext hx
        have zb := hb1.lt
        obtain ⟨k0, k1, k2, k3⟩ := hb1.out
        clear hx hb1
        go_wp2_with fail
        refine (iKatValid_c _ cb l _ (HB.out.ext hx2.out) (by omega)).mono ?_
        rw [HS.out]
        rintro e w' ⟨rfl, rfl⟩
        go_wp2_with fail
        refine (isSet_c _ _ _ b2).mono ?_
        rw [HSX.out]
        rintro e w' ⟨rfl, rfl⟩
        go_wp2_with fail
        refine (CR.out _ (hx2.out.trans (by (repeat (first | exact Ext.refl _ | assumption | refine Ext.alloc ?_ _ | refine Ext.drewN ?_ _ | refine Ext.drew ?_))))).mono ?_
        rintro e w2 ⟨v2, rfl, o2, y⟩
        have HX := Lib.hid (hx2.out.trans (Ext.trans (by (repeat (first | exact Ext.refl _ | assumption | refine Ext.alloc ?_ _ | refine Ext.drewN ?_ _ | refine Ext.drew ?_))) y))
        obtain ⟨a2, c2, rfl, i2⟩ := o2.shape
        have I2 := Lib.hid i2
        clear y o2 i2 k0 k1 k2 k3
        go_wp2_with fail
        refine (image_c a2 c2 R X _ (I2.out.ext (by (repeat (first | exact Ext.refl _ | assumption | refine Ext.alloc ?_ _ | refine Ext.drewN ?_ _ | refine Ext.drew ?_)))) hrs.out hl32 hX).mono ?_
        rintro e w3 ⟨rfl, rfl⟩
        go_wp2
        go_ret
        exact ⟨by rw [HF.out]; rfl, HX.out⟩
set_option maxRecDepth 100000 in
set_option maxHeartbeats 2000000 in
theorem sStrongStates_c (st p q : Int) (a : Option Addr) (cap : Nat) (ll : List (List Int)) (x : Int) (b : Option Addr) (cb : Nat) (l : List Int) (w : World) (hr : RowsAt w a ll) (hlen : ll.length ≤ 4194304) (hm : ∀ i, i < ll.length → (rowI ll i).length ≤ 4194304)
    (hb : IntsAt w b l) (hlb : l.length ≤ 1048576) (hcb : l.length ≤ cb) :
    Calls Tryz.prog 20 #[modelV st p q a ll.length cap, .int .i64 x, .slice b l.length cb] w fun e w' => e = .returned (.int .i64 (strongF st p q ll x l)) ∧ Ext w w' := by
  have HR := Lib.hid hr
  have HM := Lib.hid hm
  have HB := Lib.hid hb
  clear hr hm hb
  cases hv : mvB st p q ll
  · have HF : Hid (strongF st p q ll x l = -1) := by unfold Hid strongF; rw [hv]; rfl
    go_enter Tryz.func20, Tryz.ntmps20
    go_wp2_with fail
    refine (sModelValid_c st p q a cap ll _ (HR.out.ext (by (repeat (first | exact Ext.refl _ | assumption | refine Ext.alloc ?_ _ | refine Ext.drewN ?_ _ | refine Ext.drew ?_)))) hlen HM.out).mono ?_
    rw [hv]
    rintro e w1 ⟨rfl, hx⟩
    have hx2 := Ext.trans (by (repeat (first | exact Ext.refl _ | assumption | refine Ext.alloc ?_ _ | refine Ext.drewN ?_ _ | refine Ext.drew ?_)) : Ext w _) hx
    clear hx
    go_wp2
    go_ret
    exact ⟨by rw [HF.out]; rfl, hx2⟩
  · cases hs : kvB l
    · have HF : Hid (strongF st p q ll x l = -1) := by unfold Hid strongF; rw [hv, hs]; rfl
      go_enter Tryz.func20, Tryz.ntmps20
      go_wp2_with fail
      refine (sModelValid_c st p q a cap ll _ (HR.out.ext (by (repeat (first | exact Ext.refl _ | assumption | refine Ext.alloc ?_ _ | refine Ext.drewN ?_ _ | refine Ext.drew ?_)))) hlen HM.out).mono ?_
      rw [hv]
      rintro e w1 ⟨rfl, hx⟩
      have hx2 := Ext.trans (by (repeat (first | exact Ext.refl _ | assumption | refine Ext.alloc ?_ _ | refine Ext.drewN ?_ _ | refine Ext.drew ?_)) : Ext w _) hx
      clear hx
      go_wp2_with fail
      refine (sKatValid_c b cb l _ (HB.out.ext (by (repeat (first | exact Ext.refl _ | assumption | refine Ext.alloc ?_ _ | refine Ext.drewN ?_ _ | refine Ext.drew ?_)))) (by omega)).mono ?_
      rw [hs]
      rintro e w' ⟨rfl, rfl⟩
      go_wp2
      go_ret
      exact ⟨by rw [HF.out]; rfl, hx2⟩
    · have HV := Lib.hid hv
      have HS := Lib.hid hs
      obtain ⟨sn, P, Q, rfl, rfl, rfl, b1, b2, b3, b4, b5, b6, b7, b8⟩ := mvB_bounds hv
      have hp32 := pow_le_32 sn b2
      have hq1 := pow_pos' sn
      obtain ⟨hg, hw⟩ := treeOf_valid hs
      obtain ⟨hl1, hl40⟩ := kvB_len hs
      have hbb := HB.out
      obtain ⟨bb, off, h8, -⟩ := hbb
      obtain ⟨rfl, -⟩ := h8 (by omega)
      have CR : Hid (∀ w', Ext w w' → Calls Tryz.prog 85 #[modelV sn P Q a ll.length cap, .slice (some ⟨bb, off, none⟩) l.length cb] w' (RetI 3 w' (rowsF sn P Q ll l))) := fun w' hx => by
        have HF : rowsF sn P Q ll l = (treeOf l).rows P Q sn ll := by unfold rowsF; rw [hv, hs, Int.toNat_natCast]; rfl
        have := l7Rows_c sn P Q a cap ll b1 b2 b5 b6 b7 HV b8 (treeOf l) hg bb off cb w' (HR.out.ext hx) (by rw [hw]; exact HB.out.ext hx) (by rw [hw]; exact hcb) (by rw [hw]; exact hl40)
        rw [hw] at this; rw [HF]; exact this
      clear hg hw h8
      have hrel : Rel sn (rowsF sn P Q ll l) := rowsF_rel HV.out HS.out
      have hrl := hrel.len
      have hrs := Lib.hid hrel.sets
      have hS4 : setB sn x = decide (0 ≤ x ∧ x < 2 ^ sn) := rfl
      have HFS : Hid (strongF sn P Q ll x l = if setB sn x then ((img (rowsF sn P Q ll l) x.toNat : Nat) : Int) else -1) := by unfold Hid strongF; rw [HV.out, HS.out, Int.toNat_natCast]; rfl
      have hin : inB x 0 ((2 : Int) ^ sn - 1) = setB sn x := by rw [hS4]; unfold inB; rw [Bool.eq_iff_iff, decide_eq_true_eq, decide_eq_true_eq]; omega
      have hwr : IntKind.i64.wrap ((2 : Int) ^ sn - 1) = (2 : Int) ^ sn - 1 := IntWalk.i64_in _ (by omega)
      clear hv hs b7 b8 hrel
      cases hsx : setB sn x
      · have HF : Hid (strongF sn P Q ll x l = -1) := by unfold Hid; rw [HFS.out, hsx]; rfl
        rw [hsx] at hin
        clear HFS hS4
        have HSX := Lib.hid hsx
        have HIN := Lib.hid hin
        clear hsx hin
        go_enter Tryz.func20, Tryz.ntmps20
        go_wp2_with fail
        refine (sModelValid_c _ _ _ a cap ll _ (HR.out.ext (by (repeat (first | exact Ext.refl _ | assumption | refine Ext.alloc ?_ _ | refine Ext.drewN ?_ _ | refine Ext.drew ?_)))) hlen HM.out).mono ?_
        rw [HV.out]
        rintro e w1 ⟨rfl, hx⟩
        have hx2 := Lib.hid (Ext.trans (by (repeat (first | exact Ext.refl _ | assumption | refine Ext.alloc ?_ _ | refine Ext.drewN ?_ _ | refine Ext.drew ?_)) : Ext w _) hx)
        have hb1 := (box_of w sn P Q (.slice a ll.length cap)).ext hx
        have zb := hb1.lt
        obtain ⟨k0, k1, k2, k3⟩ := hb1.out
        clear hx hb1
        go_wp2_with fail
        refine (sKatValid_c _ cb l _ (HB.out.ext hx2.out) (by omega)).mono ?_
        rw [HS.out]
        rintro e w' ⟨rfl, rfl⟩
        go_wp2_with fail
        refine (l1In_c _ _ _ _).mono ?_
        rw [HIN.out]
        rintro e w' ⟨rfl, rfl⟩
        go_wp2
        go_ret
        exact ⟨by rw [HF.out]; rfl, hx2.out⟩
      · rw [hsx] at hS4
        have hx0 : 0 ≤ x ∧ x < 2 ^ sn := by simpa using hS4.symm
        obtain ⟨X, rfl⟩ := Int.eq_ofNat_of_zero_le hx0.1
        have hX : X < 4294967296 := by omega
        have HF : Hid (strongF sn P Q ll X l = ((img (rowsF sn P Q ll l) X : Nat) : Int)) := by unfold Hid; rw [HFS.out, hsx, Int.toNat_natCast]; rfl
        rw [hsx] at hin
        have HSX := Lib.hid hsx
        have HIN := Lib.hid hin
        have hl32 : (rowsF sn P Q ll l).length ≤ 32 := by omega
        clear hsx hin HFS hS4 hrl
        generalize rowsF sn P Q ll l = R at *
        go_enter Tryz.func20, Tryz.ntmps20
        go_wp2_with fail
        refine (sModelValid_c _ _ _ a cap ll _ (HR.out.ext (by (repeat (first | exact Ext.refl _ | assumption | refine Ext.alloc ?_ _ | refine Ext.drewN ?_ _ | refine Ext.drew ?_)))) hlen HM.out).mono ?_
        rw [HV.out]
        rintro e w1 ⟨rfl, hx⟩
        have hx2 := Lib.hid (Ext.trans (by (repeat (first | exact Ext.refl _ | assumption | refine Ext.alloc ?_ _ | refine Ext.drewN ?_ _ | refine Ext.drew ?_)) : Ext w _) hx)
        have hb1 := (box_of w sn P Q (.slice a ll.length cap)).ext hx
        have zb := hb1.lt
        obtain ⟨k0, k1, k2, k3⟩ := hb1.out
        clear hx hb1
        go_wp2_with fail
        refine (sKatValid_c _ cb l _ (HB.out.ext hx2.out) (by omega)).mono ?_
        rw [HS.out]
        rintro e w' ⟨rfl, rfl⟩
        go_wp2_with fail
        refine (l1In_c _ _ _ _).mono ?_
        rw [HIN.out]
        rintro e w' ⟨rfl, rfl⟩
        go_wp2_with fail
        refine (CR.out _ (hx2.out.trans (by (repeat (first | exact Ext.refl _ | assumption | refine Ext.alloc ?_ _ | refine Ext.drewN ?_ _ | refine Ext.drew ?_))))).mono ?_
        rintro e w2 ⟨v2, rfl, o2, y⟩
        have HX := Lib.hid (hx2.out.trans (Ext.trans (by (repeat (first | exact Ext.refl _ | assumption | refine Ext.alloc ?_ _ | refine Ext.drewN ?_ _ | refine Ext.drew ?_))) y))
        obtain ⟨a2, c2, rfl, i2⟩ := o2.shape
        have I2 := Lib.hid i2
        clear y o2 i2 k0 k1 k2 k3
        go_wp2_with fail
        refine (l7Image_c a2 c2 R X _ (I2.out.ext (by (repeat (first | exact Ext.refl _ | assumption | refine Ext.alloc ?_ _ | refine Ext.drewN ?_ _ | refine Ext.drew ?_)))) hrs.out hl32 hX).mono ?_
        rintro e w3 ⟨rfl, rfl⟩
        go_wp2
        go_ret
        exact ⟨by rw [HF.out]; rfl, HX.out⟩
end Go.Proofs.YtlaamecfknkmlaaGreat
namespace Go.Proofs.YtlaamecfknkmlaaGreat
set_option linter.unusedVariables false
open Go.RowKit Go.Kt Go.Sort
theorem wp_region_below_lit {P : Program} {id : Nat} {Q : Exit → Act → World → Prop} {a : Act} {w : World} {ops : Array Oper} (hm : P.follows .mixedOrders = true) (hB : Region.lexB .any ops = true)
    (h : wpQuiet P ops (fun w' => ∃ p : Regrown, w' = grow (redrawn w p.d) p.os) (fun a' => ∀ w', (∃ p : Regrown, w' = grow (redrawn w p.d) p.os) → Q .normal a' w') ops.toList a) : (Code.region id ops true).wp P Q a w := by
  obtain ⟨l⟩ := ops
  exact wp_region_quiet_below hm hB h
/-- What stands at every call of the last statement. -/
abbrev HeldB (z : Nat) (st p q : Int) (v : Value) (w5 w' : World) : Prop := (w'.cell? ⟨z, 0, none⟩ = some (.int .i64 st) ∧ w'.cell? ⟨z, 1, none⟩ = some (.int .i64 p) ∧ w'.cell? ⟨z, 2, none⟩ = some (.int .i64 q) ∧ w'.cell? ⟨z, 3, none⟩ = some v) ∧ Ext w5 w'
theorem HeldB.more {z : Nat} {st p q : Int} {v : Value} {w5 w w' : World} (h : HeldB z st p q v w5 w) (e : Ext w w') : HeldB z st p q v w5 w' :=
  ⟨BoxM.ext (show BoxM w z st p q v from h.1) e, h.2.trans e⟩
theorem HeldB.start {z : Nat} {st p q : Int} {v : Value} {w5 w' : World} (h : BoxM w5 z st p q v) (e : Ext w5 w') : HeldB z st p q v w5 w' := ⟨h.ext e, e⟩
end Go.Proofs.YtlaamecfknkmlaaGreat
