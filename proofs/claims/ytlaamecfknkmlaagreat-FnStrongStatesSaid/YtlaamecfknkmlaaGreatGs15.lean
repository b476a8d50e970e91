/- Merged texts: contracts and plain lemmas (Wi, Ws, Wc). -/
import Derived.Test.YtlaamecfknkmlaaGreatGs11
import Derived.Test.YtlaamecfknkmlaaGreatGs2
namespace Go.Proofs.YtlaamecfknkmlaaGreat
set_option linter.unusedVariables false
open Go.RowKit Go.Kt

/-- A number, and only new memory. -/
def RetNum (w : World) (n : Nat) (e : Ending) (w' : World) : Prop := e = .returned (.int .i64 n) ∧ Ext w w'
theorem inTo_no (r : List Int) (x k : Nat) (h : andN (natAt r k) x ≠ natAt r k) : inTo r x (k + 1) = inTo r x k := by
  simp only [inTo]; rw [if_neg h]; rfl
set_option maxRecDepth 100000 in
set_option maxHeartbeats 4000000 in
theorem weak_c (s P Q : Nat) (a : Option Addr) (cap : Nat) (ll : List (List Int)) (h1 : 1 ≤ s) (h5 : s ≤ 5) (hP : P < 4294967296) (hQ : Q < 4294967296) (h3 : Hid (ll.length = 3)) (hrv : Hid (∀ i, i < 3 → rvB s (rowI ll i) = true)) :
    ∀ (t : Kt), t.Good → ∀ (g : Nat) (x : Nat) (w : World), x < 2 ^ s → RowsAt w a ll → TreeAt w (fun _ => False) t g →
      Calls Tryz.prog 86 #[modelV s P Q a ll.length cap, .pointer (some ⟨g, 0, none⟩), .int .i64 x] w (RetNum w (t.weak P Q s ll x))
  | .leaf y, hg, g, x, w, hx, hr, ht => by
    have hg : 0 ≤ y ∧ y ≤ 18 := hg
    have c0 : w.cell? ⟨g, 0, none⟩ = some (.int .i64 y) := ht.2.1
    have zg := lt_of_cell c0
    have HR := Lib.hid hr
    have hlen3 : 0 < ll.length := by rw [h3.out]; omega
    have hp2 := pow2_cast s
    have hp32 : pow2 s ≤ 32 := pow2_le s 5 h5
    have hp1 := pow2_pos s
    have hx2 : x < pow2 s := hx
    have hal : ((pow2 s : Nat) : Int) - 1 = ((pow2 s - 1 : Nat) : Int) := by omega
    clear ht hr
    by_cases h15 : y ≤ 15
    · obtain ⟨X, rfl⟩ := Int.eq_ofNat_of_zero_le hg.1
      have hX : X < 65536 := by omega
      have hact : inB (X : Int) 16 18 = false := by simp [inB]; omega
      have e1 : ((X : Int) == 19) = false := by simp; omega
      have e2 : ((X : Int) == 20) = false := by simp; omega
      have e3 : ((X : Int) == 21) = false := by simp; omega
      have hts := tsTo_lt P Q X s
      have hbn : bits .andNot .i64 ((pow2 s - 1 : Nat) : Int) ((tsTo P Q X s : Nat) : Int) = ((andnN (pow2 s - 1) (tsTo P Q X s) : Nat) : Int) := i64_andnN _ _ (by omega) (by unfold pow2 at hp32; omega)
      have hbo : bits .or .i64 ((andnN (pow2 s - 1) (tsTo P Q X s) : Nat) : Int) (x : Int) = ((orN (andnN (pow2 s - 1) (tsTo P Q X s)) x : Nat) : Int) := i64_orN _ _ (by have := andnN_le (pow2 s - 1) (tsTo P Q X s); omega) (by omega)
      have HF : Hid ((Kt.leaf (X : Int)).weak P Q s ll x = orN (andnN (pow2 s - 1) (tsTo P Q X s)) x) := by
        unfold Hid; simp only [Kt.weak]; rw [if_pos h15, Int.toNat_natCast, ← andnN_all s _ h5 hts]; rfl
      have CT : Hid (∀ w', Calls Tryz.prog 94 #[modelV s P Q a ll.length cap, .int .i64 X] w' fun e w'' => e = .returned (.int .i64 (tsTo P Q X s : Nat)) ∧ Ext w' w'') := fun w' => testStates_c s P Q _ X w' h5 hP hQ hX
      clear hg h15 hts hx
      generalize tsTo P Q X s = T at *
      generalize andnN (pow2 s - 1) T = Z at *
      generalize orN Z x = R at *
      generalize pow2 s - 1 = A at *
      generalize pow2 s = p at *
      go_enter Tryz.func86, Tryz.ntmps86
      go_wp2_with fail
      refine (actB_c _ _).mono ?_
      rw [hact]
      rintro e w1 ⟨rfl, rfl⟩
      go_wp2
      have HK : Hid ((w.alloc (.cells #[.int .i64 s, .int .i64 P, .int .i64 Q, .slice a ll.length cap] 37)).cell? ⟨g, 0, none⟩ = some (.int .i64 X)) := (show Ext w _ by (repeat (first | exact Ext.refl _ | assumption | refine Ext.alloc ?_ _ | refine Ext.drewN ?_ _ | refine Ext.drew ?_))).cell' c0 zg
      have HB := Lib.hid (box_of w s P Q (.slice a ll.length cap))
      go_region_held3 (fun w' => w'.cell? ⟨w.heap.size, 0, none⟩ = some (.int .i64 s) ∧ w'.cell? ⟨w.heap.size, 1, none⟩ = some (.int .i64 P) ∧ w'.cell? ⟨w.heap.size, 2, none⟩ = some (.int .i64 Q) ∧ w'.cell? ⟨w.heap.size, 3, none⟩ = some (.slice a ll.length cap) ∧ w'.cell? ⟨g, 0, none⟩ = some (.int .i64 X))
        (first
          | go_keep
          | (have E := Ext.trans (Ext.drew (Ext.refl _)) yk; have hk1 := HB.out.ext E; exact ⟨hk1.1, hk1.2.1, hk1.2.2.1, hk1.2.2.2, E.cell' HK.out (by simp; omega)⟩))
        ((go_at_call 94; refine (CT.out _).mono ?_; rintro e wk ⟨rfl, yk⟩))
      have HX := Lib.hid (Ext.trans (show Ext w _ by (repeat (first | exact Ext.refl _ | assumption | refine Ext.alloc ?_ _ | refine Ext.drewN ?_ _ | refine Ext.drew ?_))) yk)
      clear yk
      go_wp2
      go_ret
      exact ⟨by rw [HF.out]; rfl, HX.out⟩
    · obtain ⟨y, hy⟩ : ∃ z : Nat, y = 16 + (z : Int) := ⟨(y - 16).toNat, by omega⟩
      have hy3 : y < 3 := by omega
      subst hy
      have hact : inB (16 + (y : Int)) 16 18 = true := by simp [inB]; omega
      have hyl : y < ll.length := by rw [h3.out]; exact hy3
      obtain ⟨b, off, h8, h9⟩ := HR.out
      obtain ⟨rfl, hb⟩ := h8 hlen3
      obtain ⟨ai, ci, kr, hri⟩ := h9 y hyl
      have hrl : Rel s (rowI ll y) := rvB_relK (hrv.out y hy3)
      have hl5 : (rowI ll y).length = s := hrl.len
      have zi : b < w.heap.size := hb
      have HF : Hid ((Kt.leaf (16 + (y : Int))).weak P Q s ll x = inTo (rowI ll y) x s) := by
        unfold Hid; simp only [Kt.weak]; rw [if_neg h15, show (16 + (y : Int)).toNat - 16 = y by omega]
      obtain ⟨b2, o2, p2, q2⟩ := hri
      obtain ⟨rfl, zr⟩ := p2 (by omega)
      have Q2 := Lib.hid q2
      have HL := Lib.hid hl5
      have HS := Lib.hid hrl.sets
      have hw16 : IntKind.i64.wrap (16 + (y : Int) - 16) = (y : Int) := by rw [IntWalk.i64_in _ (by omega)]; omega
      rw [hl5] at kr
      have HI1 : Hid (∀ k, andN (natAt (rowI ll y) k) x = natAt (rowI ll y) k → orN (inTo (rowI ll y) x k) (pow2 k) = inTo (rowI ll y) x (k + 1)) := fun k h => inTo_or _ _ _ h
      have HI2 : Hid (∀ k, andN (natAt (rowI ll y) k) x ≠ natAt (rowI ll y) k → inTo (rowI ll y) x (k + 1) = inTo (rowI ll y) x k) := fun k h => inTo_no _ _ _ h
      have HI3 : Hid (∀ k, inTo (rowI ll y) x k < 2 ^ k) := fun k => inTo_lt _ _ k
      have HI0 : Hid (inTo (rowI ll y) x 0 = 0) := rfl
      clear h8 h9 hrl hl5 hg h15 HR p2 q2 hx
      generalize rowI ll y = r at *
      go_enter Tryz.func86, Tryz.ntmps86
      go_wp2_with fail
      refine (actB_c _ _).mono ?_
      rw [hact]
      rintro e w1 ⟨rfl, rfl⟩
      go_wp2
      go_quiet (fail)
      go_wp2
      go_loop [8, 32] (fun o i => Hid (∃ k : Nat, k ≤ s ∧ i = .int .i64 k ∧ o = .int .i64 (inTo r x k : Nat))) (fun _ i => s - (intOf i).toNat)
      case atStart => exact Lib.hid ⟨0, Nat.zero_le _, rfl, by rw [HI0.out]; rfl⟩
      case round =>
        obtain ⟨k, hk, rfl, rfl⟩ := hrel.out
        clear hrel
        have hIl := Nat.lt_of_lt_of_le (HI3.out k) (Nat.pow_le_pow_right (n := 2) (j := 5) (by decide) (by omega))
        by_cases hlt : k < s
        · have hc2 := Q2.out k (by rw [HL.out]; exact hlt)
          rw [HS.out.eq k (by rw [HL.out]; exact hlt)] at hc2
          have hX4 := HS.out.lt k (by rw [HL.out]; exact hlt)
          have J1 : Hid (andN (natAt r k) x = natAt r k → orN (inTo r x k) (pow2 k) = inTo r x (k + 1)) := HI1.out k
          have J2 : Hid (andN (natAt r k) x ≠ natAt r k → inTo r x (k + 1) = inTo r x k) := HI2.out k
          generalize natAt r k = N at *
          have hpc := pow2_cast k
          have hpk : pow2 k ≤ 16 := pow2_le k 4 (by omega)
          have hb0 := i64_andnN N x hX4 (by omega)
          have hz : Hid (andnN N x = 0 ↔ andN N x = N) := andnN_zero hX4 (by omega)
          by_cases ha : andN N x = N
          · have hz0 := hz.out.2 ha
            rw [hz0] at hb0
            have hor := i64_orN (inTo r x k) (pow2 k) (by omega) (by omega)
            have HT := Lib.hid (J1.out ha)
            rw [HT.out] at hor
            clear J1 J2 ha hz hz0
            go_wp2
            go_round
            case rel => exact Lib.hid ⟨k + 1, by omega, by go_num, rfl⟩
            case measure => simp [intOf]; omega
          · have hzn : (((andnN N x : Nat) : Int) == 0) = false := by
              have : andnN N x ≠ 0 := fun h => ha (hz.out.1 h)
              simp; omega
            have HT := Lib.hid (J2.out ha)
            clear J1 J2 ha hz
            go_wp2
            go_round
            case rel => exact Lib.hid ⟨k + 1, by omega, by go_num, by rw [HT.out]⟩
            case measure => simp [intOf]; omega
        · obtain rfl : k = s := by omega
          go_wp2
          go_ret
          exact ⟨by rw [HF.out]; rfl, by (repeat (first | exact Ext.refl _ | assumption | refine Ext.alloc ?_ _ | refine Ext.drewN ?_ _ | refine Ext.drew ?_))⟩
  | .star b, hg, g, x, w, hx, hr, ht => by
    obtain ⟨-, c0, h, c, ga, c1, -, c2, hta⟩ := ht
    replace c2 : w.cell? ⟨h, 0, none⟩ = some (.pointer (some ⟨ga, 0, none⟩)) := c2
    have zg := lt_of_cell c0
    have zh := lt_of_cell c2
    have HR := Lib.hid hr
    have HT := Lib.hid hta
    have hp2 := pow2_cast s
    have hp32 : pow2 s ≤ 32 := pow2_le s 5 h5
    have hp1 := pow2_pos s
    have hx2 : x < pow2 s := hx
    have ih : Hid (∀ w' y, y < pow2 s → Ext w w' → Calls Tryz.prog 86 #[modelV s P Q a ll.length cap, .pointer (some ⟨ga, 0, none⟩), .int .i64 (y : Nat)] w' (RetNum w' (b.weak P Q s ll y))) := fun w' y hy hx =>
      weak_c s P Q a cap ll h1 h5 hP hQ h3 hrv b hg ga y w' hy (HR.out.ext hx) (HT.out.ext hx)
    have HF : Hid ((Kt.star b).weak P Q s ll x = shr (b.weak P Q s ll) x x) := rfl
    have HW : Hid (∀ y, y < pow2 s → b.weak P Q s ll y < pow2 s) := fun y hy => b.weak_lt P Q s ll y hy
    generalize b.weak P Q s ll = f at *
    have hact : inB 21 16 18 = false := rfl
    clear hg hr hta hx
    generalize pow2 s = p at *
    go_enter Tryz.func86, Tryz.ntmps86
    go_wp2_with fail
    refine (actB_c _ _).mono ?_
    rw [hact]
    rintro e w1 ⟨rfl, rfl⟩
    go_wp2
    have HB0 := Lib.hid (box_of w s P Q (.slice a ll.length cap))
    go_loopw [2] (fun v wr => Hid (∃ S : Nat, v = .int .i64 S ∧ S ≤ x ∧ shr f x S = shr f x x ∧ BoxM wr w.heap.size s P Q (.slice a ll.length cap) ∧ Ext w wr)) (fun v _ => (intOf v).toNat)
    case atStart => exact Lib.hid ⟨x, rfl, Nat.le_refl _, rfl, HB0.out, by (repeat (first | exact Ext.refl _ | assumption | refine Ext.alloc ?_ _ | refine Ext.drewN ?_ _ | refine Ext.drew ?_))⟩
    case round =>
      obtain ⟨S, rfl, hSx, hsh, hbx, hxr⟩ := hrel.out
      clear hrel
      have HSH := Lib.hid hsh
      have HB := Lib.hid hbx
      have HXR := Lib.hid hxr
      have k1 := hxr.cell' c1 zg
      have k2 := hxr.cell' c2 zh
      have HK := Lib.hid k1
      have HK2 := Lib.hid k2
      have zgr := Nat.lt_of_lt_of_le zg hxr.size
      have zhr := Nat.lt_of_lt_of_le zh hxr.size
      obtain ⟨q0, q1, q2, q3⟩ := hbx.out
      have zbx := hbx.lt
      have ihS : Hid (∀ w', Ext w w' → Calls Tryz.prog 86 #[modelV s P Q a ll.length cap, .pointer (some ⟨ga, 0, none⟩), .int .i64 S] w' (RetNum w' (f S))) := fun w' hx => ih.out w' S (by omega) hx
      have hfS := HW.out S (by omega)
      have hband := i64_andN S (f S) (by omega) (by omega)
      have hfix : Hid (andN S (f S) = S → shr f x S = S) := fun h => shr_fix h x
      have hstp : Hid (andN S (f S) ≠ S → shr f x (andN S (f S)) = shr f x S ∧ andN S (f S) < S) := fun h => ⟨shr_step hSx h, andN_lt h⟩
      clear hbx hxr hsh c0 HB0 k1 k2
      have k1 := HK.out
      have k2 := HK2.out
      generalize f S = N at *
      by_cases hM : andN S N = S
      · have hr1 := Lib.hid (hfix.out hM)
        rw [hM] at hband
        clear hM hfix hstp
        go_wp2
        go_region_held3 (fun w' => w'.cell? ⟨w.heap.size, 0, none⟩ = some (.int .i64 s) ∧ w'.cell? ⟨w.heap.size, 1, none⟩ = some (.int .i64 P) ∧ w'.cell? ⟨w.heap.size, 2, none⟩ = some (.int .i64 Q) ∧ w'.cell? ⟨w.heap.size, 3, none⟩ = some (.slice a ll.length cap) ∧ w'.cell? ⟨g, 1, none⟩ = some (.slice (some ⟨h, 0, none⟩) 1 c) ∧ w'.cell? ⟨h, 0, none⟩ = some (.pointer (some ⟨ga, 0, none⟩)))
          (first
            | go_keep
            | (have E := Ext.trans (Ext.drew (Ext.refl _)) yk; have hk1 := HB.out.ext E; exact ⟨hk1.1, hk1.2.1, hk1.2.2.1, hk1.2.2.2, E.cell' HK.out zgr, E.cell' HK2.out zhr⟩))
          ((go_at_call 86; refine (ihS.out _ (HXR.out.trans (by (repeat (first | exact Ext.refl _ | assumption | refine Ext.alloc ?_ _ | refine Ext.drewN ?_ _ | refine Ext.drew ?_))))).mono ?_; rintro e wk ⟨rfl, yk⟩))
        have HX := Lib.hid (HXR.out.trans (Ext.trans (by (repeat (first | exact Ext.refl _ | assumption | refine Ext.alloc ?_ _ | refine Ext.drewN ?_ _ | refine Ext.drew ?_))) yk))
        clear yk
        go_wp2
        go_ret
        exact ⟨by rw [HF.out, ← HSH.out, hr1.out]; rfl, HX.out⟩
      · obtain ⟨hs1, hs2⟩ := hstp.out hM
        have HS1 := Lib.hid hs1
        have hne : (((andN S N : Nat) : Int) == (S : Int)) = false := by simp; omega
        clear hM hfix hstp hs1
        generalize andN S N = M at *
        go_wp2
        go_region_held3 (fun w' => w'.cell? ⟨w.heap.size, 0, none⟩ = some (.int .i64 s) ∧ w'.cell? ⟨w.heap.size, 1, none⟩ = some (.int .i64 P) ∧ w'.cell? ⟨w.heap.size, 2, none⟩ = some (.int .i64 Q) ∧ w'.cell? ⟨w.heap.size, 3, none⟩ = some (.slice a ll.length cap) ∧ w'.cell? ⟨g, 1, none⟩ = some (.slice (some ⟨h, 0, none⟩) 1 c) ∧ w'.cell? ⟨h, 0, none⟩ = some (.pointer (some ⟨ga, 0, none⟩)))
          (first
            | go_keep
            | (have E := Ext.trans (Ext.drew (Ext.refl _)) yk; have hk1 := HB.out.ext E; exact ⟨hk1.1, hk1.2.1, hk1.2.2.1, hk1.2.2.2, E.cell' HK.out zgr, E.cell' HK2.out zhr⟩))
          ((go_at_call 86; refine (ihS.out _ (HXR.out.trans (by (repeat (first | exact Ext.refl _ | assumption | refine Ext.alloc ?_ _ | refine Ext.drewN ?_ _ | refine Ext.drew ?_))))).mono ?_; rintro e wk ⟨rfl, yk⟩))
        have HX := Lib.hid (HXR.out.trans (Ext.trans (by (repeat (first | exact Ext.refl _ | assumption | refine Ext.alloc ?_ _ | refine Ext.drewN ?_ _ | refine Ext.drew ?_))) yk))
        have HB2 := Lib.hid (HB.out.ext (Ext.trans (by (repeat (first | exact Ext.refl _ | assumption | refine Ext.alloc ?_ _ | refine Ext.drewN ?_ _ | refine Ext.drew ?_))) yk))
        clear yk
        go_wp2
        go_roundw
        case rel => exact Lib.hid ⟨M, rfl, by omega, HS1.out.trans HSH.out, HB2.out, HX.out⟩
        case measure => simp [intOf]; omega
  | .two y b c, hg, g, x, w, hx, hr, ht => by
    obtain ⟨-, c0, h, cc, ga, gb, c1, -, c2, c3, hta, htb⟩ := ht
    replace c2 : w.cell? ⟨h, 0, none⟩ = some (.pointer (some ⟨ga, 0, none⟩)) := c2
    replace c3 : w.cell? ⟨h, 1, none⟩ = some (.pointer (some ⟨gb, 0, none⟩)) := c3
    have zg := lt_of_cell c0
    have zh := lt_of_cell c2
    have HR := Lib.hid hr
    have HT := Lib.hid hta
    have HU := Lib.hid htb
    have hp2 := pow2_cast s
    have hp32 : pow2 s ≤ 32 := pow2_le s 5 h5
    have hp1 := pow2_pos s
    have hx2 : x < pow2 s := hx
    have ih : Hid (∀ w' y, y < pow2 s → Ext w w' → Calls Tryz.prog 86 #[modelV s P Q a ll.length cap, .pointer (some ⟨ga, 0, none⟩), .int .i64 (y : Nat)] w' (RetNum w' (b.weak P Q s ll y))) := fun w' y hy hx =>
      weak_c s P Q a cap ll h1 h5 hP hQ h3 hrv b hg.2.1 ga y w' hy (HR.out.ext hx) (HT.out.ext hx)
    have ih2 : Hid (∀ w' y, y < pow2 s → Ext w w' → Calls Tryz.prog 86 #[modelV s P Q a ll.length cap, .pointer (some ⟨gb, 0, none⟩), .int .i64 (y : Nat)] w' (RetNum w' (c.weak P Q s ll y))) := fun w' y hy hx =>
      weak_c s P Q a cap ll h1 h5 hP hQ h3 hrv c hg.2.2 gb y w' hy (HR.out.ext hx) (HU.out.ext hx)
    have HF : Hid ((Kt.two 20 b c).weak P Q s ll x = andN (b.weak P Q s ll x) (c.weak P Q s ll x)) := rfl
    have HF2 : Hid ((Kt.two 19 b c).weak P Q s ll x = b.weak P Q s ll (c.weak P Q s ll x)) := rfl
    have hw1 := b.weak_lt P Q s ll x hx
    have hw2 := c.weak_lt P Q s ll x hx
    have hw3 := Lib.hid (b.weak_lt P Q s ll _ hw2)
    have hy : y = 19 ∨ y = 20 := hg.1
    replace hw1 : b.weak P Q s ll x < pow2 s := hw1
    replace hw2 : c.weak P Q s ll x < pow2 s := hw2
    have hact : inB 19 16 18 = false := rfl
    have hact2 : inB 20 16 18 = false := rfl
    clear hg hr hta htb hx
    generalize b.weak P Q s ll = f at *
    have hb0 := i64_andN (f x) (c.weak P Q s ll x) (by omega) (by omega)
    have ihb : Hid (∀ w', Ext w w' → Calls Tryz.prog 86 #[modelV s P Q a ll.length cap, .pointer (some ⟨ga, 0, none⟩), .int .i64 x] w' (RetNum w' (f x))) := fun w' hx => ih.out w' x hx2 hx
    have ihc : Hid (∀ w', Ext w w' → Calls Tryz.prog 86 #[modelV s P Q a ll.length cap, .pointer (some ⟨gb, 0, none⟩), .int .i64 x] w' (RetNum w' (c.weak P Q s ll x))) := fun w' hx => ih2.out w' x hx2 hx
    have ihd : Hid (∀ w', Ext w w' → Calls Tryz.prog 86 #[modelV s P Q a ll.length cap, .pointer (some ⟨ga, 0, none⟩), .int .i64 (c.weak P Q s ll x : Nat)] w' (RetNum w' (f (c.weak P Q s ll x)))) := fun w' hx => ih.out w' _ hw2 hx
    clear ih ih2
    generalize c.weak P Q s ll x = N at *
    generalize f N = M at *
    generalize f x = K at *
    generalize pow2 s = p at *
    rcases hy with rfl | rfl
    · go_enter Tryz.func86, Tryz.ntmps86
      go_wp2_with fail
      refine (actB_c _ _).mono ?_
      first | rw [hact] | rw [hact2]
      rintro e w1 ⟨rfl, rfl⟩
      go_wp2
      have HK : Hid ((w.alloc (.cells #[.int .i64 s, .int .i64 P, .int .i64 Q, .slice a ll.length cap] 37)).cell? ⟨g, 1, none⟩ = some (.slice (some ⟨h, 0, none⟩) 2 cc)) := (show Ext w _ by (repeat (first | exact Ext.refl _ | assumption | refine Ext.alloc ?_ _ | refine Ext.drewN ?_ _ | refine Ext.drew ?_))).cell' c1 zg
      have HK2 : Hid ((w.alloc (.cells #[.int .i64 s, .int .i64 P, .int .i64 Q, .slice a ll.length cap] 37)).cell? ⟨h, 0, none⟩ = some (.pointer (some ⟨ga, 0, none⟩))) := (show Ext w _ by (repeat (first | exact Ext.refl _ | assumption | refine Ext.alloc ?_ _ | refine Ext.drewN ?_ _ | refine Ext.drew ?_))).cell' c2 zh
      have HK3 : Hid ((w.alloc (.cells #[.int .i64 s, .int .i64 P, .int .i64 Q, .slice a ll.length cap] 37)).cell? ⟨h, 1, none⟩ = some (.pointer (some ⟨gb, 0, none⟩))) := (show Ext w _ by (repeat (first | exact Ext.refl _ | assumption | refine Ext.alloc ?_ _ | refine Ext.drewN ?_ _ | refine Ext.drew ?_))).cell' c3 zh
      have HB := Lib.hid (box_of w s P Q (.slice a ll.length cap))
      go_region_held3 (fun w' => w'.cell? ⟨w.heap.size, 0, none⟩ = some (.int .i64 s) ∧ w'.cell? ⟨w.heap.size, 1, none⟩ = some (.int .i64 P) ∧ w'.cell? ⟨w.heap.size, 2, none⟩ = some (.int .i64 Q) ∧ w'.cell? ⟨w.heap.size, 3, none⟩ = some (.slice a ll.length cap) ∧ w'.cell? ⟨g, 1, none⟩ = some (.slice (some ⟨h, 0, none⟩) 2 cc) ∧ w'.cell? ⟨h, 0, none⟩ = some (.pointer (some ⟨ga, 0, none⟩)) ∧ w'.cell? ⟨h, 1, none⟩ = some (.pointer (some ⟨gb, 0, none⟩)))
        (first
          | go_keep
          | (have E := Ext.trans (Ext.drew (Ext.refl _)) yk; have hk1 := HB.out.ext E; exact ⟨hk1.1, hk1.2.1, hk1.2.2.1, hk1.2.2.2, E.cell' HK.out (by simp; omega), E.cell' HK2.out (by simp; omega), E.cell' HK3.out (by simp; omega)⟩)
          | (have E := Ext.trans (Ext.trans (Ext.drew (Ext.refl _)) yk) yl; have hk1 := HB.out.ext E; exact ⟨hk1.1, hk1.2.1, hk1.2.2.1, hk1.2.2.2, E.cell' HK.out (by simp; omega), E.cell' HK2.out (by simp; omega), E.cell' HK3.out (by simp; omega)⟩))
        ((first
          | (go_at_call 86; have _t := yk; refine (ihd.out _ (Ext.trans (Ext.trans (show Ext w (World.drew (World.alloc w _)) by (repeat (first | exact Ext.refl _ | assumption | refine Ext.alloc ?_ _ | refine Ext.drewN ?_ _ | refine Ext.drew ?_))) yk) (Ext.refl _))).mono ?_; rintro e wl ⟨rfl, yl⟩)
          | (go_at_call 86; refine (ihc.out _ (by (repeat (first | exact Ext.refl _ | assumption | refine Ext.alloc ?_ _ | refine Ext.drewN ?_ _ | refine Ext.drew ?_)))).mono ?_; rintro e wk ⟨rfl, yk⟩)))
      have HX := Lib.hid (Ext.trans (Ext.trans (show Ext w _ by (repeat (first | exact Ext.refl _ | assumption | refine Ext.alloc ?_ _ | refine Ext.drewN ?_ _ | refine Ext.drew ?_))) yk) yl)
      clear yk yl
      go_wp2
      go_ret
      exact ⟨by rw [HF2.out]; rfl, HX.out⟩
    · go_enter Tryz.func86, Tryz.ntmps86
      go_wp2_with fail
      refine (actB_c _ _).mono ?_
      first | rw [hact] | rw [hact2]
      rintro e w1 ⟨rfl, rfl⟩
      go_wp2
      have HK : Hid ((w.alloc (.cells #[.int .i64 s, .int .i64 P, .int .i64 Q, .slice a ll.length cap] 37)).cell? ⟨g, 1, none⟩ = some (.slice (some ⟨h, 0, none⟩) 2 cc)) := (show Ext w _ by (repeat (first | exact Ext.refl _ | assumption | refine Ext.alloc ?_ _ | refine Ext.drewN ?_ _ | refine Ext.drew ?_))).cell' c1 zg
      have HK2 : Hid ((w.alloc (.cells #[.int .i64 s, .int .i64 P, .int .i64 Q, .slice a ll.length cap] 37)).cell? ⟨h, 0, none⟩ = some (.pointer (some ⟨ga, 0, none⟩))) := (show Ext w _ by (repeat (first | exact Ext.refl _ | assumption | refine Ext.alloc ?_ _ | refine Ext.drewN ?_ _ | refine Ext.drew ?_))).cell' c2 zh
      have HK3 : Hid ((w.alloc (.cells #[.int .i64 s, .int .i64 P, .int .i64 Q, .slice a ll.length cap] 37)).cell? ⟨h, 1, none⟩ = some (.pointer (some ⟨gb, 0, none⟩))) := (show Ext w _ by (repeat (first | exact Ext.refl _ | assumption | refine Ext.alloc ?_ _ | refine Ext.drewN ?_ _ | refine Ext.drew ?_))).cell' c3 zh
      have HB := Lib.hid (box_of w s P Q (.slice a ll.length cap))
      go_region_held3 (fun w' => w'.cell? ⟨w.heap.size, 0, none⟩ = some (.int .i64 s) ∧ w'.cell? ⟨w.heap.size, 1, none⟩ = some (.int .i64 P) ∧ w'.cell? ⟨w.heap.size, 2, none⟩ = some (.int .i64 Q) ∧ w'.cell? ⟨w.heap.size, 3, none⟩ = some (.slice a ll.length cap) ∧ w'.cell? ⟨g, 1, none⟩ = some (.slice (some ⟨h, 0, none⟩) 2 cc) ∧ w'.cell? ⟨h, 0, none⟩ = some (.pointer (some ⟨ga, 0, none⟩)) ∧ w'.cell? ⟨h, 1, none⟩ = some (.pointer (some ⟨gb, 0, none⟩)))
        (first
          | go_keep
          | (have E := Ext.trans (Ext.drew (Ext.refl _)) yk; have hk1 := HB.out.ext E; exact ⟨hk1.1, hk1.2.1, hk1.2.2.1, hk1.2.2.2, E.cell' HK.out (by simp; omega), E.cell' HK2.out (by simp; omega), E.cell' HK3.out (by simp; omega)⟩)
          | (have E := Ext.trans (Ext.trans (Ext.drew (Ext.refl _)) yk) yl; have hk1 := HB.out.ext E; exact ⟨hk1.1, hk1.2.1, hk1.2.2.1, hk1.2.2.2, E.cell' HK.out (by simp; omega), E.cell' HK2.out (by simp; omega), E.cell' HK3.out (by simp; omega)⟩))
        ((first
          | (go_at_call 86; have _t := yk; refine (ihc.out _ (Ext.trans (Ext.trans (show Ext w (World.drew (World.alloc w _)) by (repeat (first | exact Ext.refl _ | assumption | refine Ext.alloc ?_ _ | refine Ext.drewN ?_ _ | refine Ext.drew ?_))) yk) (Ext.refl _))).mono ?_; rintro e wl ⟨rfl, yl⟩)
          | (go_at_call 86; refine (ihb.out _ (by (repeat (first | exact Ext.refl _ | assumption | refine Ext.alloc ?_ _ | refine Ext.drewN ?_ _ | refine Ext.drew ?_)))).mono ?_; rintro e wk ⟨rfl, yk⟩)))
      have HX := Lib.hid (Ext.trans (Ext.trans (show Ext w _ by (repeat (first | exact Ext.refl _ | assumption | refine Ext.alloc ?_ _ | refine Ext.drewN ?_ _ | refine Ext.drew ?_))) yk) yl)
      clear yk yl
      go_wp2
      go_ret
      exact ⟨by rw [HF.out]; rfl, HX.out⟩
end Go.Proofs.YtlaamecfknkmlaaGreat
namespace Go.Proofs.YtlaamecfknkmlaaGreat
set_option linter.unusedVariables false
open Go.RowKit Go.Kt

end Go.Proofs.YtlaamecfknkmlaaGreat
namespace Go.Proofs.YtlaamecfknkmlaaGreat
set_option linter.unusedVariables false
open Go.RowKit Go.Kt

/-- WeakStates. -/
def weakF (st p q : Int) (ll : List (List Int)) (l : List Int) (x : Int) : Int := if mvB st p q ll && kvB l && setB st.toNat x then (((treeOf l).weak p q st.toNat ll x.toNat : Nat) : Int) else -1
set_option maxRecDepth 100000 in
set_option maxHeartbeats 2000000 in
theorem iWeakStates_c (st p q : Int) (a : Option Addr) (cap : Nat) (ll : List (List Int)) (b : Option Addr) (cb : Nat) (l : List Int) (x : Int) (w : World) (hr : RowsAt w a ll) (hlen : ll.length ≤ 4194304) (hm : ∀ i, i < ll.length → (rowI ll i).length ≤ 4194304)
    (hb : IntsAt w b l) (hlb : l.length ≤ 1048576) :
    Calls Tryz.prog 21 #[modelV st p q a ll.length cap, .slice b l.length cb, .int .i64 x] w fun e w' => e = .returned (.int .i64 (weakF st p q ll l x)) ∧ Ext w w' := by
  have HR := Lib.hid hr
  have HM := Lib.hid hm
  have HB := Lib.hid hb
  clear hr hm hb
  cases hv : mvB st p q ll
  · have HF : Hid (weakF st p q ll l x = -1) := by unfold Hid weakF; rw [hv]; rfl
    go_enter Tryz.func21, Tryz.ntmps21
    go_wp2_with fail
    refine (iModelValid_c st p q a cap ll _ (HR.out.ext (by (repeat (first | exact Ext.refl _ | assumption | refine Ext.alloc ?_ _ | refine Ext.drewN ?_ _ | refine Ext.drew ?_)))) hlen HM.out).mono ?_
    rw [hv]
    rintro e w1 ⟨rfl, hx⟩
    have hx2 := Ext.trans (by (repeat (first | exact Ext.refl _ | assumption | refine Ext.alloc ?_ _ | refine Ext.drewN ?_ _ | refine Ext.drew ?_)) : Ext w _) hx
    clear hx
    go_wp2
    go_ret
    exact ⟨by rw [HF.out]; rfl, hx2⟩
  · cases hs : kvB l
    · have HF : Hid (weakF st p q ll l x = -1) := by unfold Hid weakF; rw [hv, hs]; rfl
      go_enter Tryz.func21, Tryz.ntmps21
      go_wp2_with fail
      refine (iModelValid_c st p q a cap ll _ (HR.out.ext (by (repeat (first | exact Ext.refl _ | assumption | refine Ext.alloc ?_ _ | refine Ext.drewN ?_ _ | refine Ext.drew ?_)))) hlen HM.out).mono ?_
      rw [hv]
      rintro e w1 ⟨rfl, hx⟩
      have hx2 := Ext.trans (by (repeat (first | exact Ext.refl _ | assumption | refine Ext.alloc ?_ _ | refine Ext.drewN ?_ _ | refine Ext.drew ?_)) : Ext w _) hx
      clear hx
      go_wp2_with fail
      refine (iKatValid_c b cb l _ (HB.out.ext (by (repeat (first | exact Ext.refl _ | assumption | refine Ext.alloc ?_ _ | refine Ext.drewN ?_ _ | refine Ext.drew ?_)))) (by omega)).mono ?_
      rw [hs]
      rintro e w' ⟨rfl, rfl⟩
      go_wp2
      go_ret
      exact ⟨by rw [HF.out]; rfl, hx2⟩
    · have HV := Lib.hid hv
      have HS := Lib.hid hs
      obtain ⟨sn, P, Q, rfl, rfl, rfl, b1, b2, b3, b4, b5, b6, b7, b8⟩ := mvB_bounds hv
      obtain ⟨hg, hw⟩ := treeOf_valid hs
      obtain ⟨hl1, hl40⟩ := kvB_len hs
      have hp32 := pow_le_32 sn b2
      have hq1 := pow_pos' sn
      have CB : Hid (∀ w', Ext w w' → Calls Tryz.prog 69 #[.slice b l.length cb] w' (RetT w' (treeOf l))) := fun w' hx => build_c b cb l (treeOf l) w' (HB.out.ext hx) hg hw hs
      have CR : Hid (∀ w' g X, X < 2 ^ sn → Ext w w' → TreeAt w' (fun _ => False) (treeOf l) g → Calls Tryz.prog 86 #[modelV sn P Q a ll.length cap, .pointer (some ⟨g, 0, none⟩), .int .i64 (X : Nat)] w' (RetNum w' ((treeOf l).weak P Q sn ll X))) := fun w' g X hX hx ht =>
        weak_c sn P Q a cap ll b1 b2 b5 b6 b7 b8 _ hg g X w' hX (HR.out.ext hx) ht
      clear hg hw
      have hS4 : setB sn x = decide (0 ≤ x ∧ x < 2 ^ sn) := rfl
      have HFS : Hid (weakF sn P Q ll l x = if setB sn x then (((treeOf l).weak P Q sn ll x.toNat : Nat) : Int) else -1) := by unfold Hid weakF; rw [HV.out, HS.out, Int.toNat_natCast]; rfl
      have hin : inB x 0 ((2 : Int) ^ sn - 1) = setB sn x := by rw [hS4]; unfold inB; rw [Bool.eq_iff_iff, decide_eq_true_eq, decide_eq_true_eq]; omega
      have hwr : IntKind.i64.wrap ((2 : Int) ^ sn - 1) = (2 : Int) ^ sn - 1 := IntWalk.i64_in _ (by omega)
      clear hv hs b7 b8
      generalize treeOf l = t at *
      cases hsx : setB sn x
      · have HF : Hid (weakF sn P Q ll l x = -1) := by unfold Hid; rw [HFS.out, hsx]; rfl
        rw [hsx] at hin
        clear HFS hS4
        have HSX := Lib.hid hsx
        have HIN := Lib.hid hin
        clear hsx hin
        go_enter Tryz.func21, Tryz.ntmps21
        go_wp2_with fail
        refine (iModelValid_c _ _ _ a cap ll _ (HR.out.ext (by (repeat (first | exact Ext.refl _ | assumption | refine Ext.alloc ?_ _ | refine Ext.drewN ?_ _ | refine Ext.drew ?_)))) hlen HM.out).mono ?_
        rw [HV.out]
        rintro e w1 ⟨rfl, hx⟩
        have hx2 := Lib.hid (Ext.trans (by (repeat (first | exact Ext.refl _ | assumption | refine Ext.alloc ?_ _ | refine Ext.drewN ?_ _ | refine Ext.drew ?_)) : Ext w _) hx)
        have hb1 := (box_of w sn P Q (.slice a ll.length cap)).ext hx
        have zb := hb1.lt
        obtain ⟨k0, k1, k2, k3⟩ := hb1.out
        clear hx hb1
        go_wp2_with fail
        refine (iKatValid_c _ cb l _ (HB.out.ext hx2.out) (by omega)).mono ?_
        rw [HS.out]
        rintro e w' ⟨rfl, rfl⟩
        go_wp2_with fail
        refine (isSet_c _ x _ b2).mono ?_
        rw [HSX.out]
        rintro e w' ⟨rfl, rfl⟩
        go_wp2
        go_ret
        exact ⟨by rw [HF.out]; rfl, hx2.out⟩
      · rw [hsx] at hS4
        have hx0 : 0 ≤ x ∧ x < 2 ^ sn := by simpa using hS4.symm
        obtain ⟨X, rfl⟩ := Int.eq_ofNat_of_zero_le hx0.1
        have hXs : X < 2 ^ sn := by have := hx0.2; exact_mod_cast this
        have HF : Hid (weakF sn P Q ll l X = ((t.weak P Q sn ll X : Nat) : Int)) := by unfold Hid; rw [HFS.out, hsx, Int.toNat_natCast]; rfl
        rw [hsx] at hin
        have HSX := Lib.hid hsx
        have HIN := Lib.hid hin
        have CR2 : Hid (∀ w' g, Ext w w' → TreeAt w' (fun _ => False) t g → Calls Tryz.prog 86 #[modelV sn P Q a ll.length cap, .pointer (some ⟨g, 0, none⟩), .int .i64 X] w' (RetNum w' (t.weak P Q sn ll X))) := fun w' g hx ht => CR.out w' g X hXs hx ht
        clear hsx hin HFS hS4 CR hx0 hXs
        generalize t.weak P Q sn ll X = N at *
        go_enter Tryz.func21, Tryz.ntmps21
        go_wp2_with fail
        refine (iModelValid_c _ _ _ a cap ll _ (HR.out.ext (by (repeat (first | exact Ext.refl _ | assumption | refine Ext.alloc ?_ _ | refine Ext.drewN ?_ _ | refine Ext.drew ?_)))) hlen HM.out).mono ?_
        rw [HV.out]
        rintro e w1 ⟨rfl, hx⟩
        have hx2 := Lib.hid (Ext.trans (by (repeat (first | exact Ext.refl _ | assumption | refine Ext.alloc ?_ _ | refine Ext.drewN ?_ _ | refine Ext.drew ?_)) : Ext w _) hx)
        have hb1 := (box_of w sn P Q (.slice a ll.length cap)).ext hx
        have HB1 := Lib.hid hb1
        have zb := hb1.lt
        obtain ⟨k0, k1, k2, k3⟩ := hb1.out
        clear hx hb1
        go_wp2_with fail
        refine (iKatValid_c _ cb l _ (HB.out.ext hx2.out) (by omega)).mono ?_
        rw [HS.out]
        rintro e w' ⟨rfl, rfl⟩
        go_wp2_with fail
        refine (isSet_c _ _ _ b2).mono ?_
        rw [HSX.out]
        rintro e w' ⟨rfl, rfl⟩
        go_wp2
        go_region_held3 (fun w' => w'.cell? ⟨w.heap.size, 0, none⟩ = some (.int .i64 sn) ∧ w'.cell? ⟨w.heap.size, 1, none⟩ = some (.int .i64 P) ∧ w'.cell? ⟨w.heap.size, 2, none⟩ = some (.int .i64 Q) ∧ w'.cell? ⟨w.heap.size, 3, none⟩ = some (.slice a ll.length cap))
          (first
            | go_keep
            | (have E := Ext.trans (Ext.drew (Ext.refl _)) yk; have hk1 := HB1.out.ext E; exact ⟨hk1.1, hk1.2.1, hk1.2.2.1, hk1.2.2.2⟩)
            | (have E := Ext.trans (Ext.trans (Ext.drew (Ext.refl _)) yk) yl; have hk1 := HB1.out.ext E; exact ⟨hk1.1, hk1.2.1, hk1.2.2.1, hk1.2.2.2⟩))
          ((first
            | (go_at_call 69; refine (CB.out _ (hx2.out.trans (by (repeat (first | exact Ext.refl _ | assumption | refine Ext.alloc ?_ _ | refine Ext.drewN ?_ _ | refine Ext.drew ?_))))).mono ?_; rintro e wk ⟨g, rfl, tk, yk⟩)
            | (go_at_call 86; refine (CR2.out _ g (Ext.trans (hx2.out.trans (by (repeat (first | exact Ext.refl _ | assumption | refine Ext.alloc ?_ _ | refine Ext.drewN ?_ _ | refine Ext.drew ?_)))) yk) tk).mono ?_; rintro e wl ⟨rfl, yl⟩)))
        have HX := Lib.hid (Ext.trans (Ext.trans (hx2.out.trans (by (repeat (first | exact Ext.refl _ | assumption | refine Ext.alloc ?_ _ | refine Ext.drewN ?_ _ | refine Ext.drew ?_)))) yk) yl)
        clear yk yl tk
        go_wp2
        go_ret
        exact ⟨by rw [HF.out]; rfl, HX.out⟩
end Go.Proofs.YtlaamecfknkmlaaGreat
