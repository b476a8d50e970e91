/- Merged texts: contracts and plain lemmas (Ir). -/
import Derived.Test.YtlaamecfknkmlaaGreatGr4
import Derived.Test.YtlaamecfknkmlaaGreatGr1
import Derived.Test.YtlaamecfknkmlaaGreatGr3
import Derived.Deep.RegionLaw
/- Contracts: the program's rows of a tree, in a model. -/
namespace Go.Kt
set_option linter.unusedVariables false
theorem andN_pow2 (x k : Nat) : andN x (pow2 k) = if x.testBit k then pow2 k else 0 := by
  apply Nat.eq_of_testBit_eq
  intro i
  rw [testBit_andN, testBit_pow2]
  by_cases h : k = i
  · subst h
    cases hb : x.testBit k
    · simp
    · simp [testBit_pow2]
  · rw [decide_eq_false h, Bool.and_false]
    split
    · rw [testBit_pow2, decide_eq_false h]
    · simp
theorem fillTo_nth (l : List Int) (k i : Nat) (h : i < k) (hk : k ≤ l.length) : nth (fillTo l k) i = nth l i := by
  unfold fillTo nth
  rw [List.getD_eq_getElem?_getD, List.getD_eq_getElem?_getD, List.getElem?_append_left (by simp; omega), List.getElem?_take, if_pos h]
end Go.Kt
namespace Go.Proofs.YtlaamecfknkmlaaGreat
set_option linter.unusedVariables false
open Go.RowKit Go.Kt

theorem own_sized {w : World} {B E cap n : Nat} {a : Option Addr} {l : List Int} (h : OwnI w B E (.slice a n cap) l) (e : l.length = n) : OwnI w B E (.slice a l.length cap) l := by subst e; exact h
set_option maxRecDepth 100000 in
set_option maxHeartbeats 1000000 in
theorem testRows_c (sn p q : Nat) (av : Value) (t : Nat) (w : World) (hs : sn ≤ 5) (hp : p < 4294967296) (hq : q < 4294967296) (ht : t < 65536) :
    Calls Tryz.prog 99 #[.agg #[.int .i64 sn, .int .i64 p, .int .i64 q, av], .int .i64 t] w (RetI 3 w (testL p q t sn sn)) := by
  obtain ⟨i0, hi, hz0, hz1, hz2⟩ := info_parts infoInt
  have Hi := Lib.hid hi
  have Hz0 := Lib.hid hz0
  have Hz1 := Lib.hid hz1
  have Hz2 := Lib.hid hz2
  have HL := Lib.hid (testL_length p q t sn sn)
  clear hi hz0 hz1 hz2
  go_enter Tryz.func99, Tryz.ntmps99
  go_wp2_with (at_make; refine wpList_make_full _ rfl _ _ _ rfl w.heap.size 3 i0 (.int .i64 0) 1 Tryz.underlying23 Hi.out Hz0.out Hz1.out _ _ _ _ sn rfl rfl rfl rfl (by rw [Hz2.out]; omega) (by unfold maxLen; omega) (by simp) ?_)
  intro w2 ho hg
  have hx2 := Lib.hid (Ext.trans (show Ext w _ by (repeat (first | exact Ext.refl _ | assumption | refine Ext.alloc ?_ _ | refine Ext.drewN ?_ _ | refine Ext.drew ?_))) (Ext.of_grown hg))
  have hb2 := Lib.hid (BoxM.ext (show BoxM (w.alloc (.cells #[.int .i64 sn, .int .i64 p, .int .i64 q, av] 37)) w.heap.size sn p q av by simp [BoxM, go_sem]) (Ext.of_grown hg))
  have ho2 := own_made ho
  have HO2 := Lib.hid ho2
  obtain ⟨k0, k1, k2, k3⟩ := hb2.out.out
  clear ho hg ho2
  go_wp2
  go_loopw [12] (fun i wr => Hid (∃ k : Nat, k ≤ sn ∧ i = .int .i64 k ∧ OwnI wr w.heap.size 3 (.slice (some ⟨w.heap.size + 1, 0, none⟩) sn sn) (fillTo (testL p q t sn sn) k) ∧ BoxM wr w.heap.size sn p q av ∧ Ext w wr)) (fun i _ => sn - (intOf i).toNat)
  case atStart => exact Lib.hid ⟨0, Nat.zero_le _, rfl, by rw [fillTo_zero, HL.out]; exact HO2.out, hb2.out, hx2.out⟩
  case round =>
    obtain ⟨k, hk, rfl, ho, hb, hx⟩ := hrel.out
    clear hrel HO2 hb2 hx2 k0 k1 k2 k3
    by_cases hlt : k < sn
    · have hfl := fillTo_length (testL p q t sn sn) k (by rw [HL.out]; omega)
      rw [HL.out] at hfl
      have ho2 := own_sized ho hfl
      obtain ⟨g, cap', hv, hB, hgs, hcell, hfz⟩ := ho2.row (by rw [hfl]; omega)
      obtain ⟨rfl, -⟩ : w.heap.size + 1 = g ∧ sn = cap' := by simpa using hv
      have hc := hcell k (by rw [hfl]; exact hlt)
      have hf := hfz k
      have HC := Lib.hid hc
      have HF := Lib.hid hf
      have hpc := pow2_cast k
      have hp1 : pow2 k ≤ 16 := pow2_le k 4 (by omega)
      have hl := tsTo_lt p q t sn
      have hl2 : tsTo p q t sn < 32 := Nat.lt_of_lt_of_le hl (Nat.pow_le_pow_right (by decide) hs)
      have ha : bits .and .i64 ((tsTo p q t sn : Nat) : Int) ((pow2 k : Nat) : Int) = ((testRow p q t sn k : Nat) : Int) := by
        rw [i64_and _ _ (by omega) (by omega)]
        have := andN_pow2 (tsTo p q t sn) k
        unfold andN at this
        rw [this]; rfl
      have hset := Lib.hid (ho2.set k ((testRow p q t sn k : Nat) : Int))
      have hst : Hid ((fillTo (testL p q t sn sn) k).set k ((testRow p q t sn k : Nat) : Int) = fillTo (testL p q t sn sn) (k + 1)) := by
        unfold Hid
        have := fillTo_set (testL p q t sn sn) k (by rw [HL.out]; exact hlt)
        rw [testL_get p q t sn sn k hlt] at this
        exact this
      have HO := Lib.hid ho2
      have HB := Lib.hid hb
      have HX := Lib.hid hx
      obtain ⟨k0, k1, k2, k3⟩ := hb.out
      have CT : Hid (∀ w' : World, Calls Tryz.prog 94 #[.agg #[.int .i64 sn, .int .i64 p, .int .i64 q, av], .int .i64 t] w' fun e w'' => e = .returned (.int .i64 (tsTo p q t sn : Nat)) ∧ Ext w' w'') := fun w' => testStates_c sn p q av t w' hs hp hq ht
      clear hv hcell hfz ho ho2 hc hf hb hx hl
      generalize tsTo p q t sn = S at *
      generalize testRow p q t sn k = R at *
      go_wp2
      go_region_law ((go_simp; go_at_call 94; refine (CT.out _).mono ?_; rintro e wk ⟨rfl, yk⟩
                      have yk2 : Ext wr wk := Ext.trans (by (repeat (first | exact Ext.refl _ | assumption | refine Ext.alloc ?_ _ | refine Ext.drewN ?_ _ | refine Ext.drew ?_))) yk
                      have hck := yk2.cell' HC.out hgs
                      have hfk := (yk2.frozen (p := ⟨w.heap.size + 1, k, none⟩) hgs).trans HF.out
                      have YK := Lib.hid yk2
                      clear yk yk2))
      all_goals
        go_wp2
        go_roundw
        case rel =>
          refine Lib.hid ⟨k + 1, by omega, by go_num, ?_, ?_, ?_⟩
          · exact (own_len ((HO.out.ext YK.out).set k (bits .and .i64 (S : Int) ((pow2 k : Nat) : Int))) (by rw [ha]; exact hst.out) (by rw [fillTo_length _ _ (by rw [HL.out]; omega), HL.out])).ext (by (repeat (first | exact Ext.refl _ | assumption | refine Ext.alloc ?_ _ | refine Ext.drewN ?_ _ | refine Ext.drew ?_)))
          · exact (BoxM.setOther (c := w.heap.size + 1) (HB.out.ext YK.out) (by simp)).ext (by (repeat (first | exact Ext.refl _ | assumption | refine Ext.alloc ?_ _ | refine Ext.drewN ?_ _ | refine Ext.drew ?_)))
          · exact Ext.trans (Ext.setCell (HX.out.trans YK.out) (p := ⟨w.heap.size + 1, k, none⟩) hB _) (by (repeat (first | exact Ext.refl _ | assumption | refine Ext.alloc ?_ _ | refine Ext.drewN ?_ _ | refine Ext.drew ?_)))
        case measure => simp [intOf]; omega
    · obtain rfl : k = sn := by omega
      have hfe := fillTo_end (testL p q t k k)
      rw [HL.out] at hfe
      rw [hfe] at ho
      go_wp2
      go_ret
      exact ⟨_, rfl, ho.ext (by (repeat (first | exact Ext.refl _ | assumption | refine Ext.alloc ?_ _ | refine Ext.drewN ?_ _ | refine Ext.drew ?_))), hx.trans (by (repeat (first | exact Ext.refl _ | assumption | refine Ext.alloc ?_ _ | refine Ext.drewN ?_ _ | refine Ext.drew ?_)))⟩
end Go.Proofs.YtlaamecfknkmlaaGreat
