/- Merged texts: contracts and plain lemmas (Sc). -/
import Derived.Test.YtlaamecfknkmlaaDoorMg29
import Derived.Test.YtlaamecfknkmlaaDoorMg33
/- Contracts: the program's ReadKat. -/
namespace Go.Proofs.YtlaamecfknkmlaaDoor
set_option linter.unusedVariables false
open Go.RowKit Go.Kt

/-- The world's reading of both named results, behind the deferred calls. -/
theorem readKatLong_c (s : ByteArray) (w : World) (hs : 199 < s.size) : Calls Tryd.prog 11 #[.string s] w (RetIB w [] false) := by
  have hmf : ∀ (fn : Fn) (first cap : Array Value) (w : World), (Instr.makeFunc fn first cap).run Tryd.prog w = .ok (.func fn first cap) w := fun _ _ _ _ => rfl
  go_enter_defers Tryd.func11, Tryd.ntmps11
  go_wp2
  have HX : Ext w ((w.alloc (.cells #[.slice none 0 0] 29)).alloc (.cells #[.bool false] 4)) := by (repeat (first | exact Ext.refl _ | assumption | refine Ext.alloc ?_ _ | refine Ext.drewN ?_ _ | refine Ext.drew ?_))
  have c1 : ((w.alloc (.cells #[.slice none 0 0] 29)).alloc (.cells #[.bool false] 4)).cell? ⟨w.heap.size, 0, none⟩ = some (.slice none 0 0) := by simp [go_sem]
  have c2 : ((w.alloc (.cells #[.slice none 0 0] 29)).alloc (.cells #[.bool false] 4)).cell? ⟨w.heap.size + 1, 0, none⟩ = some (.bool false) := by simp [go_sem]
  generalize (w.alloc (.cells #[.slice none 0 0] 29)).alloc (.cells #[.bool false] 4) = W at *
  simp [bodyPostD, Leaves, results, Tryd.results11, go_sem, c1, c2]
  exact ⟨_, rfl, OwnI.nil _ _ _, HX⟩
/-- The block of the reader: what it holds, and what the world holds below. -/
theorem reader_kr (w : World) (s : ByteArray) : Kr (((w.alloc (.cells #[.slice none 0 0] 29)).alloc (.cells #[.bool false] 4)).alloc (.cells #[.string s, .int .i64 0] 57)) (w.heap.size + 2) s 0 := by
  refine ⟨by simp [go_sem], by simp [go_sem], ⟨by simp, fun o => by simp [go_sem]⟩⟩
/-- What the world holds of both named results, behind the reader's calls. -/
structure Named (w w1 : World) : Prop where
  c1 : w1.cell? ⟨w.heap.size, 0, none⟩ = some (.slice none 0 0)
  c2 : w1.cell? ⟨w.heap.size + 1, 0, none⟩ = some (.bool false)
  f1 : w1.frozen? ⟨w.heap.size, 0, none⟩ = false
  f2 : w1.frozen? ⟨w.heap.size + 1, 0, none⟩ = false
  hz : w.heap.size + 3 ≤ w1.heap.size
  hx : Ext w w1
theorem named_of {w w1 : World} {s : ByteArray} (ht1 : Touched (((w.alloc (.cells #[.slice none 0 0] 29)).alloc (.cells #[.bool false] 4)).alloc (.cells #[.string s, .int .i64 0] 57)) w1 (w.heap.size + 2) (w.heap.size + 3)) : Named w w1 := by
  have b1 := ht1.block w.heap.size (by simp; omega) (.inl (by omega))
  have b2 := ht1.block (w.heap.size + 1) (by simp) (.inl (by omega))
  have hz := ht1.size
  simp at hz
  refine ⟨?_, ?_, ?_, ?_, hz, ?_⟩
  · rw [World.cell?_of_block (a := ⟨w.heap.size, 0, none⟩) b1]; simp [go_sem]
  · rw [World.cell?_of_block (a := ⟨w.heap.size + 1, 0, none⟩) b2]; simp [go_sem]
  · rw [World.frozen?_of_block (a := ⟨w.heap.size, 0, none⟩) b1]; simp [go_sem]
  · rw [World.frozen?_of_block (a := ⟨w.heap.size + 1, 0, none⟩) b2]; simp [go_sem]
  · exact ht1.ext (by (repeat (first | exact Ext.refl _ | assumption | refine Ext.alloc ?_ _ | refine Ext.drewN ?_ _ | refine Ext.drew ?_))) (by omega)
theorem two_set {w1 : World} {p : Nat} {x y : Value} (u v : Value) (hp : p + 1 < w1.heap.size) (c1 : w1.cell? ⟨p, 0, none⟩ = some x) (c2 : w1.cell? ⟨p + 1, 0, none⟩ = some y) :
    ((w1.setCell ⟨p, 0, none⟩ u).setCell ⟨p + 1, 0, none⟩ v).cell? ⟨p, 0, none⟩ = some u ∧ ((w1.setCell ⟨p, 0, none⟩ u).setCell ⟨p + 1, 0, none⟩ v).cell? ⟨p + 1, 0, none⟩ = some v := by
  constructor <;> simp [go_sem, c1, c2]
set_option maxHeartbeats 800000 in
theorem readKatBad_c (s : ByteArray) (w : World) (hs : s.size ≤ 199) (hN : NamesW w) (hr : rSum (s.size + 1) (bs s) = none) : Calls Tryd.prog 11 #[.string s] w (RetIB w [] false) := by
  have hmf : ∀ (fn : Fn) (first cap : Array Value) (w : World), (Instr.makeFunc fn first cap).run Tryd.prog w = .ok (.func fn first cap) w := fun _ _ _ _ => rfl
  have HA := Lib.hid (sum_all w (w.heap.size + 2) s hN (by omega) hs (s.size + 1))
  have HR := Lib.hid hr
  clear hN hr
  go_enter_defers Tryd.func11, Tryd.ntmps11
  go_wp2_with fail
  refine (HA.out 0 _ (by (repeat (first | exact Ext.refl _ | assumption | refine Ext.alloc ?_ _ | refine Ext.drewN ?_ _ | refine Ext.drew ?_))) (reader_kr w s) (by omega) (by omega)).mono ?_
  rw [List.drop_zero, HR.out]
  rintro e w1 ⟨ht1, rfl⟩
  have HNm := Lib.hid (named_of ht1)
  clear ht1
  go_wp2
  refine leaves_cons (f := 29) (args := #[.pointer (some ⟨w.heap.size, 0, none⟩), .pointer (some ⟨w.heap.size + 1, 0, none⟩)]) (by simp) (by simp [go_sem]) ?_
  refine (catchWrong_c w.heap.size (w.heap.size + 1) _ (by omega) (Nat.lt_of_lt_of_le (by omega) HNm.out.hz) (Nat.lt_of_lt_of_le (by omega) HNm.out.hz) HNm.out.c1 HNm.out.c2 HNm.out.f1 HNm.out.f2).mono ?_
  rintro e u' w'' ⟨rfl, rfl, rfl⟩
  have HX : Ext w (((w1.setCell ⟨w.heap.size, 0, none⟩ (.slice none 0 0)).setCell ⟨w.heap.size + 1, 0, none⟩ (.bool false)).alloc (.cells #[] 54)) := ((HNm.out.hx.setCell (Nat.le_refl _) _).setCell (by show w.heap.size ≤ w.heap.size + 1; omega) _).alloc _
  have h2 := two_set (.slice none 0 0) (.bool false) (Nat.lt_of_lt_of_le (by omega) HNm.out.hz) HNm.out.c1 HNm.out.c2
  have hz2 : w.heap.size + 1 < ((w1.setCell ⟨w.heap.size, 0, none⟩ (.slice none 0 0)).setCell ⟨w.heap.size + 1, 0, none⟩ (.bool false)).heap.size := by
    have := HNm.out.hz; simp; omega
  have c1 := (Ext.alloc (Ext.refl _) (.cells #[] 54)).cell' h2.1 (by omega)
  have c2 := (Ext.alloc (Ext.refl _) (.cells #[] 54)).cell' h2.2 hz2
  clear HNm h2 hz2
  generalize ((w1.setCell ⟨w.heap.size, 0, none⟩ (.slice none 0 0)).setCell ⟨w.heap.size + 1, 0, none⟩ (.bool false)).alloc (.cells #[] 54) = W at *
  simp [Leaves, settle, results, Tryd.results11, go_sem, c1, c2]
  exact ⟨_, rfl, OwnI.nil _ _ _, HX⟩
/-- What is laid into both named results. -/
def resV (b : Bool) (v : Value) : Value := if b then v else .slice none 0 0
set_option maxRecDepth 100000 in
set_option maxHeartbeats 800000 in
theorem readKatGood_c (s : ByteArray) (w : World) (hs : s.size ≤ 199) (hN : NamesW w) (l : List Int) (r : List UInt8) (hr : rSum (s.size + 1) (bs s) = some (l, r)) : Calls Tryd.prog 11 #[.string s] w (RetV w (r.isEmpty && kvB l) l) := by
  have hmf : ∀ (fn : Fn) (first cap : Array Value) (w : World), (Instr.makeFunc fn first cap).run Tryd.prog w = .ok (.func fn first cap) w := fun _ _ _ _ => rfl
  have HA := Lib.hid (sum_all w (w.heap.size + 2) s hN (by omega) hs (s.size + 1))
  have HR := Lib.hid hr
  have hl : l.length ≤ 4194304 := by
    have := sum_fits _ _ _ _ hr
    rw [bs_len] at this; omega
  clear hN hr
  obtain ⟨B, hB⟩ : ∃ B, Hid (B = (r.isEmpty && kvB l)) := ⟨_, rfl⟩
  rw [← hB.out]
  go_enter_defers Tryd.func11, Tryd.ntmps11
  go_wp2_with fail
  refine (HA.out 0 _ (by (repeat (first | exact Ext.refl _ | assumption | refine Ext.alloc ?_ _ | refine Ext.drewN ?_ _ | refine Ext.drew ?_))) (reader_kr w s) (by omega) (by omega)).mono ?_
  rw [List.drop_zero, HR.out]
  rintro e w1 ⟨ht1, v, q, rfl, ho, hq, hqs, hk⟩
  have HNm := Lib.hid (named_of ht1)
  have hpos := hk.pos
  have HO := Lib.hid ho
  obtain ⟨av, cv, rfl, hiv⟩ := ho.shape
  have HI := Lib.hid hiv
  clear ht1 hk ho hiv HA HR
  have HZ := Lib.hid HNm.out.hz
  have hc1 := HNm.out.c1
  have hc2 := HNm.out.c2
  have hf1 := HNm.out.f1
  have hf2 := HNm.out.f2
  have hb1 : w.heap.size < w1.heap.size := Nat.lt_of_lt_of_le (by omega) HZ.out
  have hb2 : w.heap.size + 1 < w1.heap.size := Nat.lt_of_lt_of_le (by omega) HZ.out
  have tail : ∀ (b : Bool), b = B → ∀ (W : World), W = (w1.setCell ⟨w.heap.size, 0, none⟩ (resV b (.slice av l.length cv))).setCell ⟨w.heap.size + 1, 0, none⟩ (.bool b) →
      Hid (RetV w B l (.returned (.tuple #[resV b (.slice av l.length cv), .bool b])) W ∧ W.cell? ⟨w.heap.size, 0, none⟩ = some (resV b (.slice av l.length cv)) ∧ W.cell? ⟨w.heap.size + 1, 0, none⟩ = some (.bool b)) := by
    rintro b rfl W rfl
    have h2 := two_set (resV b (.slice av l.length cv)) (.bool b) hb2 hc1 hc2
    have hX : Ext w ((w1.setCell ⟨w.heap.size, 0, none⟩ (resV b (.slice av l.length cv))).setCell ⟨w.heap.size + 1, 0, none⟩ (.bool b)) := (HNm.out.hx.setCell (Nat.le_refl _) _).setCell (by show w.heap.size ≤ w.heap.size + 1; omega) _
    refine ⟨?_, h2.1, h2.2⟩
    cases b
    · exact RetV.no rfl (OwnI.nil _ _ _) hX
    · refine RetV.yes rfl ?_ hX
      have hlt := fun k hk => (World.ownsRow.lt HO.out k hk).1
      simp at hlt
      refine OwnI.mono (B := (((w.alloc (.cells #[.slice none 0 0] 29)).alloc (.cells #[.bool false] 4)).alloc (.cells #[.string s, .int .i64 0] 57)).heap.size) ?_ (by simp; omega)
      have o1 := own_set_other HO.out ⟨w.heap.size, 0, none⟩ (resV true (.slice av l.length cv)) (fun e => by have := hlt _ e; simp at this; omega)
      exact own_set_other o1 ⟨w.heap.size + 1, 0, none⟩ (.bool true) (fun e => by have := hlt _ e; simp at this; omega)
  have HT := Lib.hid tail
  clear tail HNm
  have hrs : r.length = s.size - q := by rw [← hq, List.length_drop, bs_len]
  have HT0 : Hid (∀ W : World, false = B → W = (w1.setCell ⟨w.heap.size, 0, none⟩ (.slice none 0 0)).setCell ⟨w.heap.size + 1, 0, none⟩ (.bool false) → RetV w B l (.returned (.tuple #[.slice none 0 0, .bool false])) W ∧ W.cell? ⟨w.heap.size, 0, none⟩ = some (.slice none 0 0) ∧ W.cell? ⟨w.heap.size + 1, 0, none⟩ = some (.bool false)) := fun W hb hW => (HT.out false hb W hW).out
  have HT1 : Hid (∀ W : World, true = B → W = (w1.setCell ⟨w.heap.size, 0, none⟩ (.slice av l.length cv)).setCell ⟨w.heap.size + 1, 0, none⟩ (.bool true) → RetV w B l (.returned (.tuple #[.slice av l.length cv, .bool true])) W ∧ W.cell? ⟨w.heap.size, 0, none⟩ = some (.slice av l.length cv) ∧ W.cell? ⟨w.heap.size + 1, 0, none⟩ = some (.bool true)) := fun W hb hW => (HT.out true hb W hW).out
  clear HT
  by_cases hlt : q < s.size
  · have hb : Hid (false = B) := by
      cases r with
      | nil => simp at hrs; omega
      | cons c r => exact hB.out.symm
    clear hB hrs hq HI HO HZ hl HT1
    go_wp2
    refine leaves_cons (f := 29) (args := #[.pointer (some ⟨w.heap.size, 0, none⟩), .pointer (some ⟨w.heap.size + 1, 0, none⟩)]) (by simp) (by simp [go_sem]) ?_
    refine (catchIdle_c _ _ _).mono ?_
    rintro e u' w'' ⟨rfl, rfl, rfl⟩
    obtain ⟨h1, c1, c2⟩ := HT0.out _ hb.out rfl
    clear HT0 hc1 hc2 hf1 hf2 hpos
    generalize (w1.setCell ⟨w.heap.size, 0, none⟩ (.slice none 0 0)).setCell ⟨w.heap.size + 1, 0, none⟩ (.bool false) = W at *
    simp [Leaves, settle, results, Tryd.results11, go_sem, c1, c2]
    exact h1
  · obtain rfl : q = s.size := by omega
    have hrn : r = [] := by
      cases r with
      | nil => rfl
      | cons c r => simp at hrs
    cases hkv : kvB l
    · have hb : Hid (false = B) := by rw [hrn, hkv] at hB; exact hB.out.symm
      have CK : Hid (∀ W, Ext w1 W → Calls Tryd.prog 26 #[.slice av l.length cv] W fun e w' => e = .returned (.bool false) ∧ W = w') := fun W hx => by
        have := iKatValid_c av cv l W (HI.out.ext hx) hl
        rw [hkv] at this; exact this
      clear hB hrs hq HI HO HZ hl HT1 hrn hkv
      go_wp2_with fail
      refine (CK.out _ (by (repeat (first | exact Ext.refl _ | assumption | refine Ext.alloc ?_ _ | refine Ext.drewN ?_ _ | refine Ext.drew ?_)))).mono ?_
      rintro e w2 ⟨rfl, rfl⟩
      go_wp2
      refine leaves_cons (f := 29) (args := #[.pointer (some ⟨w.heap.size, 0, none⟩), .pointer (some ⟨w.heap.size + 1, 0, none⟩)]) (by simp) (by simp [go_sem]) ?_
      refine (catchIdle_c _ _ _).mono ?_
      rintro e u' w'' ⟨rfl, rfl, rfl⟩
      obtain ⟨h1, c1, c2⟩ := HT0.out _ hb.out rfl
      clear HT0 hc1 hc2 hf1 hf2 hpos
      generalize (w1.setCell ⟨w.heap.size, 0, none⟩ (.slice none 0 0)).setCell ⟨w.heap.size + 1, 0, none⟩ (.bool false) = W at *
      simp [Leaves, settle, results, Tryd.results11, go_sem, c1, c2]
      exact h1
    · have hb : Hid (true = B) := by rw [hrn, hkv] at hB; exact hB.out.symm
      have CK : Hid (∀ W, Ext w1 W → Calls Tryd.prog 26 #[.slice av l.length cv] W fun e w' => e = .returned (.bool true) ∧ W = w') := fun W hx => by
        have := iKatValid_c av cv l W (HI.out.ext hx) hl
        rw [hkv] at this; exact this
      clear hB hrs hq HI HO HZ hl HT0 hrn hkv
      go_wp2_with fail
      refine (CK.out _ (by (repeat (first | exact Ext.refl _ | assumption | refine Ext.alloc ?_ _ | refine Ext.drewN ?_ _ | refine Ext.drew ?_)))).mono ?_
      rintro e w2 ⟨rfl, rfl⟩
      go_wp2
      refine leaves_cons (f := 29) (args := #[.pointer (some ⟨w.heap.size, 0, none⟩), .pointer (some ⟨w.heap.size + 1, 0, none⟩)]) (by simp) (by simp [go_sem]) ?_
      refine (catchIdle_c _ _ _).mono ?_
      rintro e u' w'' ⟨rfl, rfl, rfl⟩
      obtain ⟨h1, c1, c2⟩ := HT1.out _ hb.out rfl
      clear HT1 hc1 hc2 hf1 hf2 hpos
      generalize (w1.setCell ⟨w.heap.size, 0, none⟩ (.slice av l.length cv)).setCell ⟨w.heap.size + 1, 0, none⟩ (.bool true) = W at *
      simp [Leaves, settle, results, Tryd.results11, go_sem, c1, c2]
      exact h1
/-- What ReadKat comes to, at every text. -/
theorem readKat_c (s : ByteArray) (w : World) (hN : NamesW w) : Calls Tryd.prog 11 #[.string s] w (RetIB w ((readF (bs s)).getD []) (readF (bs s)).isSome) := by
  by_cases hs : s.size ≤ 199
  · have hb : (bs s).length ≤ 199 := by rw [bs_len]; exact hs
    cases hr : rSum (s.size + 1) (bs s) with
    | none =>
      have e : readF (bs s) = none := by unfold readF; rw [if_pos hb, bs_len, hr]
      rw [e]; exact readKatBad_c s w hs hN hr
    | some p =>
      obtain ⟨l, r⟩ := p
      have h := readKatGood_c s w hs hN l r hr
      cases r with
      | cons c r =>
        have e : readF (bs s) = none := by unfold readF; rw [if_pos hb, bs_len, hr]
        rw [e]; exact h
      | nil =>
        have e : readF (bs s) = if kvB l then some l else none := by unfold readF; rw [if_pos hb, bs_len, hr]
        rw [e]
        cases hk : kvB l
        · rw [hk] at h; exact h
        · rw [hk] at h; exact h
  · have e : readF (bs s) = none := by unfold readF; rw [if_neg (by rw [bs_len]; exact hs)]
    rw [e]
    exact readKatLong_c s w (by omega)
end Go.Proofs.YtlaamecfknkmlaaDoor
