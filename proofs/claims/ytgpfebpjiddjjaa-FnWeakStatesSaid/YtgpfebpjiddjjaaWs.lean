/- Contracts: the reference's weakest sets of states. -/
import Derived.Test.YtgpfebpjiddjjaaWi
namespace Go.Proofs.Ytgpfebpjiddjjaa
set_option linter.unusedVariables false
open Go.RowKit Go.Kt

set_option maxRecDepth 100000 in
set_option maxHeartbeats 4000000 in
theorem l7Weak_c (s P Q : Nat) (a : Option Addr) (cap : Nat) (ll : List (List Int)) (h1 : 1 ≤ s) (h5 : s ≤ 5) (hP : P < 4294967296) (hQ : Q < 4294967296) (h3 : Hid (ll.length = 3)) (hv : Hid (mvB s P Q ll = true)) (hrv : Hid (∀ i, i < 3 → rvB s (rowI ll i) = true)) :
    ∀ (t : Kt), t.Good → ∀ (b off cb : Nat) (x : Nat) (w : World), x < 2 ^ s → RowsAt w a ll → IntsAt w (some ⟨b, off, none⟩) t.words → t.words.length ≤ cb → t.words.length ≤ 40 →
      Calls Try.prog 31 #[modelV s P Q a ll.length cap, .slice (some ⟨b, off, none⟩) t.words.length cb, .int .i64 x] w (RetN w (t.weak P Q s ll x))
  | .leaf y, hg, b, off, cb, x, w, hx, hr, hl, hcb, h40 => by
    have hg : 0 ≤ y ∧ y ≤ 18 := hg
    obtain ⟨hc, zb⟩ := IntsAt.at_ (xs := []) (ys := []) hl
    have HR := Lib.hid hr
    have hlen3 : 0 < ll.length := by rw [h3.out]; omega
    have hll4 : ll.length ≤ 4194304 := by rw [h3.out]; omega
    have HM : Hid (∀ i, i < ll.length → (rowI ll i).length ≤ 4194304) := fun i hi => by have := rvB_sets (hrv.out i (by rw [← h3.out]; exact hi)); omega
    simp only [Kt.words, List.length_nil, Nat.add_zero, List.length_cons, Nat.zero_add] at hc hcb ⊢
    have hp2 := pow2_cast s
    have hp32 : pow2 s ≤ 32 := pow2_le s 5 h5
    have hp1 := pow2_pos s
    have hx2 : x < pow2 s := hx
    have hal : ((pow2 s : Nat) : Int) - 1 = ((pow2 s - 1 : Nat) : Int) := by omega
    clear hr hl h40
    by_cases h15 : y ≤ 15
    · obtain ⟨X, rfl⟩ := Int.eq_ofNat_of_zero_le hg.1
      have hX : X < 65536 := by omega
      have hts : tsTo P Q X s < pow2 s := tsTo_lt P Q X s
      have HF : Hid ((Kt.leaf (X : Int)).weak P Q s ll x = orN (pow2 s - 1 - tsTo P Q X s) x) := by
        unfold Hid; simp only [Kt.weak]; rw [if_pos h15, Int.toNat_natCast]; rfl
      have CT : Hid (∀ w', Ext w w' → Calls Try.prog 56 #[modelV s P Q a ll.length cap, .int .i64 X] w' fun e w'' => e = .returned (.int .i64 (tsTo P Q X s : Nat)) ∧ Ext w' w'') := fun w' hx => by
        have := sTestStates_c s P Q a cap ll X w' (HR.out.ext hx) hll4 HM.out
        have hF : testF s P Q ll X = ((tsTo P Q X s : Nat) : Int) := by unfold testF; rw [hv.out, show inB (X : Int) 0 15 = true by simp [inB]; omega, Int.toNat_natCast, Int.toNat_natCast]; rfl
        rw [hF] at this; exact this
      have hdf : ((pow2 s - 1 : Nat) : Int) - ((tsTo P Q X s : Nat) : Int) = ((pow2 s - 1 - tsTo P Q X s : Nat) : Int) := by omega
      have hd32 : pow2 s - 1 - tsTo P Q X s < 4294967296 := by omega
      clear hg hx
      generalize pow2 s - 1 - tsTo P Q X s = D at *
      generalize tsTo P Q X s = T at *
      generalize pow2 s - 1 = A at *
      generalize pow2 s = p at *
      go_enter Try.func31, Try.ntmps31
      go_wp2_with fail
      refine (CT.out _ (by (repeat (first | exact Ext.refl _ | assumption | refine Ext.alloc ?_ _ | refine Ext.drewN ?_ _ | refine Ext.drew ?_)))).mono ?_
      rintro e w1 ⟨rfl, y⟩
      have HX := Lib.hid (Ext.trans (show Ext w _ by (repeat (first | exact Ext.refl _ | assumption | refine Ext.alloc ?_ _ | refine Ext.drewN ?_ _ | refine Ext.drew ?_))) y)
      clear y
      go_wp2_with fail
      refine (l1Either_c D x _ hd32 (by omega)).mono ?_
      rintro e w2 ⟨rfl, rfl⟩
      go_wp2
      go_ret
      exact ⟨by rw [HF.out]; rfl, HX.out⟩
    · obtain ⟨y, hy⟩ : ∃ z : Nat, y = 16 + (z : Int) := ⟨(y - 16).toNat, by omega⟩
      have hy3 : y < 3 := by omega
      subst hy
      have hyl : y < ll.length := by rw [h3.out]; exact hy3
      obtain ⟨bb, off', h8, h9⟩ := HR.out
      obtain ⟨rfl, hb⟩ := h8 hlen3
      obtain ⟨ai, ci, kr, hri⟩ := h9 y hyl
      have zi : bb < w.heap.size := hb
      have hrl : Rel s (rowI ll y) := rvB_relK (hrv.out y hy3)
      have hl5 : (rowI ll y).length = s := hrl.len
      have HF : Hid ((Kt.leaf (16 + (y : Int))).weak P Q s ll x = inTo (rowI ll y) x s) := by
        unfold Hid; simp only [Kt.weak]; rw [if_neg h15, show (16 + (y : Int)).toNat - 16 = y by omega]
      obtain ⟨b2, o2, p2, q2⟩ := hri
      obtain ⟨rfl, zr⟩ := p2 (by omega)
      have Q2 := Lib.hid q2
      have HL := Lib.hid hl5
      have HS := Lib.hid hrl.sets
      have hw16 : IntKind.i64.wrap (16 + (y : Int) - 16) = (y : Int) := by rw [IntWalk.i64_in _ (by omega)]; omega
      rw [hl5] at kr
      have HI1 : Hid (∀ k, inTo (rowI ll y) x (k + 1) = inTo (rowI ll y) x k + if andN (natAt (rowI ll y) k) x = natAt (rowI ll y) k then pow2 k else 0) := fun k => rfl
      have HI3 : Hid (∀ k, inTo (rowI ll y) x k < 2 ^ k) := fun k => inTo_lt _ _ k
      have HI0 : Hid (inTo (rowI ll y) x 0 = 0) := rfl
      have KR := Lib.hid kr
      clear h8 h9 hrl hl5 hg h15 HR p2 q2 hx kr
      generalize rowI ll y = r at *
      go_enter Try.func31, Try.ntmps31
      go_wp2
      have HB0 := Lib.hid (box_of w s P Q (.slice (some ⟨bb, off', none⟩) ll.length cap))
      go_loopw [10, 11] (fun o i wr => Hid (∃ k : Nat, k ≤ s ∧ i = .int .i64 k ∧ o = .int .i64 (inTo r x k : Nat) ∧ BoxM wr w.heap.size s P Q (.slice (some ⟨bb, off', none⟩) ll.length cap) ∧ Ext w wr)) (fun _ i _ => s - (intOf i).toNat)
      case atStart => exact Lib.hid ⟨0, Nat.zero_le _, rfl, by rw [HI0.out]; rfl, HB0.out, by (repeat (first | exact Ext.refl _ | assumption | refine Ext.alloc ?_ _ | refine Ext.drewN ?_ _ | refine Ext.drew ?_))⟩
      case round =>
        obtain ⟨k, hk, rfl, rfl, hbx, hxr⟩ := hrel.out
        clear hrel HB0
        have HB := Lib.hid hbx
        have HX := Lib.hid hxr
        obtain ⟨k0, k1, k2, k3⟩ := hbx.out
        have zbx := hbx.lt
        have kr := hxr.cell' KR.out zi
        have hIl := Nat.lt_of_lt_of_le (HI3.out k) (Nat.pow_le_pow_right (n := 2) (j := 5) (by decide) (by omega))
        clear hbx
        by_cases hlt : k < s
        · have hc2 := Q2.out k (by rw [HL.out]; exact hlt)
          rw [HS.out.eq k (by rw [HL.out]; exact hlt)] at hc2
          replace hc2 := hxr.cell' hc2 zr
          have hX4 := HS.out.lt k (by rw [HL.out]; exact hlt)
          have J1 := Lib.hid (HI1.out k)
          generalize natAt r k = N at *
          have hpc := pow2_cast k
          have hpk : pow2 k ≤ 16 := pow2_le k 4 (by omega)
          clear hxr hc
          by_cases ha : andN N x = N
          · have HT : Hid (inTo r x (k + 1) = inTo r x k + pow2 k) := by rw [J1.out, if_pos ha]; rfl
            have hq : (((andN N x : Nat) : Int) == (N : Int)) = true := by rw [ha]; simp
            have hz : Hid (∀ w0 : World, Calls Try.prog 57 #[.int .i64 N, .int .i64 x] w0 fun e w' => e = .returned (.int .i64 N) ∧ w0 = w') := fun w0 => by
              have := l1Both_c N x w0 hX4 (by omega)
              rw [ha] at this; exact this
            clear J1 ha hq
            go_wp2
            go_quiet ((go_at_call 57; exact quiet_same (hz.out _)))
            go_wp2
            go_roundw
            case rel => exact Lib.hid ⟨k + 1, by omega, by go_num, by rw [HT.out]; simp, HB.out.ext (by (repeat (first | exact Ext.refl _ | assumption | refine Ext.alloc ?_ _ | refine Ext.drewN ?_ _ | refine Ext.drew ?_))), HX.out.trans (by (repeat (first | exact Ext.refl _ | assumption | refine Ext.alloc ?_ _ | refine Ext.drewN ?_ _ | refine Ext.drew ?_)))⟩
            case measure => simp [intOf]; omega
          · have HT : Hid (inTo r x (k + 1) = inTo r x k) := by rw [J1.out, if_neg ha]; rfl
            have hq : (((andN N x : Nat) : Int) == (N : Int)) = false := by simp; omega
            clear J1 ha
            go_wp2
            go_quiet ((go_at_call 57; exact quiet_same (l1Both_c _ _ _ (by omega) (by omega))))
            go_wp2
            go_roundw
            case rel => exact Lib.hid ⟨k + 1, by omega, by go_num, by rw [HT.out], HB.out.ext (by (repeat (first | exact Ext.refl _ | assumption | refine Ext.alloc ?_ _ | refine Ext.drewN ?_ _ | refine Ext.drew ?_))), HX.out.trans (by (repeat (first | exact Ext.refl _ | assumption | refine Ext.alloc ?_ _ | refine Ext.drewN ?_ _ | refine Ext.drew ?_)))⟩
            case measure => simp [intOf]; omega
        · obtain rfl : k = s := by omega
          clear hc
          go_wp2
          go_ret
          exact ⟨by rw [HF.out]; rfl, HX.out⟩
  | .star c, hg, b, off, cb, x, w, hx, hr, hl, hcb, h40 => by
    obtain ⟨hc, zb⟩ := IntsAt.at_ (xs := c.words) (ys := []) hl
    have hla := Lib.hid (IntsAt.left (xs := c.words) hl)
    have HR := Lib.hid hr
    have hlen : (Kt.star c).words.length = c.words.length + 1 := by simp [Kt.words]
    rw [hlen] at hcb h40 ⊢
    have hp2 := pow2_cast s
    have hp32 : pow2 s ≤ 32 := pow2_le s 5 h5
    have hp1 := pow2_pos s
    have hx2 : x < pow2 s := hx
    obtain ⟨q, hq⟩ : ∃ q, q = c.words.length := ⟨_, rfl⟩
    have ih : Hid (∀ w' y, y < pow2 s → Ext w w' → Calls Try.prog 31 #[modelV s P Q a ll.length cap, .slice (some ⟨b, off, none⟩) q cb, .int .i64 (y : Nat)] w' (RetN w' (c.weak P Q s ll y))) := fun w' y hy hx => by
      rw [hq]; exact l7Weak_c s P Q a cap ll h1 h5 hP hQ h3 hv hrv c hg b off cb y w' hy (HR.out.ext hx) (hla.out.ext hx) (by omega) (by omega)
    have HF : Hid ((Kt.star c).weak P Q s ll x = shr (c.weak P Q s ll) x x) := rfl
    have HW : Hid (∀ y, y < pow2 s → c.weak P Q s ll y < pow2 s) := fun y hy => c.weak_lt P Q s ll y hy
    generalize c.weak P Q s ll = f at *
    rw [← hq] at hc hcb h40 ⊢
    clear hg hr hl hla hlen hq hx
    generalize pow2 s = p at *
    have hw1 : IntKind.i64.wrap ((q : Int) + 1 - 1) = (q : Int) := by rw [IntWalk.i64_in _ (by omega)]; omega
    have hqc : (q : Int) ≤ cb := by omega
    go_enter Try.func31, Try.ntmps31
    go_wp2
    have HB0 := Lib.hid (box_of w s P Q (.slice a ll.length cap))
    go_loopw [12] (fun v wr => Hid (∃ S : Nat, v = .int .i64 S ∧ S ≤ x ∧ shr f x S = shr f x x ∧ BoxM wr w.heap.size s P Q (.slice a ll.length cap) ∧ Ext w wr)) (fun v _ => (intOf v).toNat)
    case atStart => exact Lib.hid ⟨x, rfl, Nat.le_refl _, rfl, HB0.out, by (repeat (first | exact Ext.refl _ | assumption | refine Ext.alloc ?_ _ | refine Ext.drewN ?_ _ | refine Ext.drew ?_))⟩
    case round =>
      obtain ⟨S, rfl, hSx, hsh, hbx, hxr⟩ := hrel.out
      clear hrel
      have HSH := Lib.hid hsh
      have HB := Lib.hid hbx
      have HXR := Lib.hid hxr
      obtain ⟨q0, q1, q2, q3⟩ := hbx.out
      have zbx := hbx.lt
      have ihS : Hid (∀ w', Ext w w' → Calls Try.prog 31 #[modelV s P Q a ll.length cap, .slice (some ⟨b, off, none⟩) q cb, .int .i64 S] w' (RetN w' (f S))) := fun w' hx => ih.out w' S (by omega) hx
      have hfS := HW.out S (by omega)
      have CB : Hid (∀ w0 : World, Calls Try.prog 57 #[.int .i64 S, .int .i64 (f S : Nat)] w0 fun e w' => e = .returned (.int .i64 (andN S (f S) : Nat)) ∧ w0 = w') := fun w0 => l1Both_c S (f S) w0 (by omega) (by omega)
      have hfix : Hid (andN S (f S) = S → shr f x S = S) := fun h => shr_fix h x
      have hstp : Hid (andN S (f S) ≠ S → shr f x (andN S (f S)) = shr f x S ∧ andN S (f S) < S) := fun h => ⟨shr_step hSx h, andN_lt h⟩
      clear hbx hxr hsh HB0 hc
      generalize f S = N at *
      by_cases hM : andN S N = S
      · have hr1 := Lib.hid (hfix.out hM)
        rw [hM] at CB
        clear hM hfix hstp
        go_wp2
        go_region_held3 (fun w' => w'.cell? ⟨w.heap.size, 0, none⟩ = some (.int .i64 s) ∧ w'.cell? ⟨w.heap.size, 1, none⟩ = some (.int .i64 P) ∧ w'.cell? ⟨w.heap.size, 2, none⟩ = some (.int .i64 Q) ∧ w'.cell? ⟨w.heap.size, 3, none⟩ = some (.slice a ll.length cap))
          (first
            | go_keep
            | (have E := Ext.trans (Ext.drew (Ext.refl _)) yk; have hk1 := HB.out.ext E; exact ⟨hk1.1, hk1.2.1, hk1.2.2.1, hk1.2.2.2⟩)
            | (have E := Ext.trans (Ext.trans (Ext.drew (Ext.refl _)) yk) yl; have hk1 := HB.out.ext E; exact ⟨hk1.1, hk1.2.1, hk1.2.2.1, hk1.2.2.2⟩))
          ((first
          | (go_at_call 31; refine (ihS.out _ (HXR.out.trans (by (repeat (first | exact Ext.refl _ | assumption | refine Ext.alloc ?_ _ | refine Ext.drewN ?_ _ | refine Ext.drew ?_))))).mono ?_; rintro e wk ⟨rfl, yk⟩)
          | (go_at_call 57; refine (CB.out _).mono ?_; rintro e wl ⟨rfl, rfl⟩)))
        have HX := Lib.hid (HXR.out.trans (Ext.trans (by (repeat (first | exact Ext.refl _ | assumption | refine Ext.alloc ?_ _ | refine Ext.drewN ?_ _ | refine Ext.drew ?_))) yk))
        clear yk
        go_wp2
        go_ret
        exact ⟨by rw [HF.out, ← HSH.out, hr1.out]; rfl, HX.out⟩
      · obtain ⟨hs1, hs2⟩ := hstp.out hM
        have HS1 := Lib.hid hs1
        have hne : (((andN S N : Nat) : Int) != (S : Int)) = true := by simp; omega
        clear hM hfix hstp hs1
        generalize andN S N = M at *
        go_wp2
        go_region_held3 (fun w' => w'.cell? ⟨w.heap.size, 0, none⟩ = some (.int .i64 s) ∧ w'.cell? ⟨w.heap.size, 1, none⟩ = some (.int .i64 P) ∧ w'.cell? ⟨w.heap.size, 2, none⟩ = some (.int .i64 Q) ∧ w'.cell? ⟨w.heap.size, 3, none⟩ = some (.slice a ll.length cap))
          (first
            | go_keep
            | (have E := Ext.trans (Ext.drew (Ext.refl _)) yk; have hk1 := HB.out.ext E; exact ⟨hk1.1, hk1.2.1, hk1.2.2.1, hk1.2.2.2⟩)
            | (have E := Ext.trans (Ext.trans (Ext.drew (Ext.refl _)) yk) yl; have hk1 := HB.out.ext E; exact ⟨hk1.1, hk1.2.1, hk1.2.2.1, hk1.2.2.2⟩))
          ((first
          | (go_at_call 31; refine (ihS.out _ (HXR.out.trans (by (repeat (first | exact Ext.refl _ | assumption | refine Ext.alloc ?_ _ | refine Ext.drewN ?_ _ | refine Ext.drew ?_))))).mono ?_; rintro e wk ⟨rfl, yk⟩)
          | (go_at_call 57; refine (CB.out _).mono ?_; rintro e wl ⟨rfl, rfl⟩)))
        have HX := Lib.hid (HXR.out.trans (Ext.trans (by (repeat (first | exact Ext.refl _ | assumption | refine Ext.alloc ?_ _ | refine Ext.drewN ?_ _ | refine Ext.drew ?_))) yk))
        have HB2 := Lib.hid (HB.out.ext (Ext.trans (by (repeat (first | exact Ext.refl _ | assumption | refine Ext.alloc ?_ _ | refine Ext.drewN ?_ _ | refine Ext.drew ?_))) yk))
        clear yk q0 q1 q2 q3 HB
        have HB := HB2
        obtain ⟨q0, q1, q2, q3⟩ := HB2.out.out
        have zbx2 := HB2.out.lt
        go_wp2
        go_region_held3 (fun w' => w'.cell? ⟨w.heap.size, 0, none⟩ = some (.int .i64 s) ∧ w'.cell? ⟨w.heap.size, 1, none⟩ = some (.int .i64 P) ∧ w'.cell? ⟨w.heap.size, 2, none⟩ = some (.int .i64 Q) ∧ w'.cell? ⟨w.heap.size, 3, none⟩ = some (.slice a ll.length cap))
          (first
            | go_keep
            | (have E := Ext.trans (Ext.drew (Ext.refl _)) yk; have hk1 := HB.out.ext E; exact ⟨hk1.1, hk1.2.1, hk1.2.2.1, hk1.2.2.2⟩)
            | (have E := Ext.trans (Ext.trans (Ext.drew (Ext.refl _)) yk) yl; have hk1 := HB.out.ext E; exact ⟨hk1.1, hk1.2.1, hk1.2.2.1, hk1.2.2.2⟩))
          ((first
          | (go_at_call 31; refine (ihS.out _ (HX.out.trans (by (repeat (first | exact Ext.refl _ | assumption | refine Ext.alloc ?_ _ | refine Ext.drewN ?_ _ | refine Ext.drew ?_))))).mono ?_; rintro e wk ⟨rfl, yk⟩)
          | (go_at_call 57; refine (CB.out _).mono ?_; rintro e wl ⟨rfl, rfl⟩)))
        have HX2 := Lib.hid (HX.out.trans (Ext.trans (by (repeat (first | exact Ext.refl _ | assumption | refine Ext.alloc ?_ _ | refine Ext.drewN ?_ _ | refine Ext.drew ?_))) yk))
        have HB3 := Lib.hid (HB.out.ext (Ext.trans (by (repeat (first | exact Ext.refl _ | assumption | refine Ext.alloc ?_ _ | refine Ext.drewN ?_ _ | refine Ext.drew ?_))) yk))
        clear yk
        go_wp2
        go_roundw
        case rel => exact Lib.hid ⟨M, rfl, by omega, HS1.out.trans HSH.out, HB3.out, HX2.out⟩
        case measure => simp [intOf]; omega
  | .two y c d, hg, b, off, cb, x, w, hx, hr, hl, hcb, h40 => by
    obtain ⟨hc, zb⟩ := IntsAt.at_ (xs := c.words ++ d.words) (ys := []) hl
    have hla := Lib.hid (IntsAt.left (xs := c.words) (IntsAt.left (xs := c.words ++ d.words) hl))
    have hlc := Lib.hid (IntsAt.right (xs := c.words) (IntsAt.left (xs := c.words ++ d.words) hl))
    have HR := Lib.hid hr
    have hlen : (Kt.two y c d).words.length = c.words.length + d.words.length + 1 := by simp [Kt.words]; omega
    have hH : Hid (∀ w', Ext w w' → Calls Try.prog 58 #[.slice (some ⟨b, off, none⟩) (c.words.length + d.words.length + 1) cb] w' fun e w'' => e = .returned (.tuple #[.slice (some ⟨b, off, none⟩) c.words.length cb, .slice (some ⟨b, off + c.words.length, none⟩) d.words.length (cb - c.words.length)]) ∧ w'' = w'.drew) := fun w' hx => 
      two_halves b off cb y c d hg.2.2 w' (hl.ext hx) hcb (by omega)
    rw [hlen] at hcb h40 ⊢
    rw [List.length_append] at hc
    have hp2 := pow2_cast s
    have hp32 : pow2 s ≤ 32 := pow2_le s 5 h5
    have hp1 := pow2_pos s
    have hx2 : x < pow2 s := hx
    obtain ⟨q, hq⟩ : ∃ q, q = c.words.length := ⟨_, rfl⟩
    obtain ⟨r, hr'⟩ : ∃ r, r = d.words.length := ⟨_, rfl⟩
    have ih : Hid (∀ w' y, y < pow2 s → Ext w w' → Calls Try.prog 31 #[modelV s P Q a ll.length cap, .slice (some ⟨b, off, none⟩) q cb, .int .i64 (y : Nat)] w' (RetN w' (c.weak P Q s ll y))) := fun w' y hy hx => by
      rw [hq]; exact l7Weak_c s P Q a cap ll h1 h5 hP hQ h3 hv hrv c hg.2.1 b off cb y w' hy (HR.out.ext hx) (hla.out.ext hx) (by omega) (by omega)
    have ih2 : Hid (∀ w' y, y < pow2 s → Ext w w' → Calls Try.prog 31 #[modelV s P Q a ll.length cap, .slice (some ⟨b, off + q, none⟩) r (cb - q), .int .i64 (y : Nat)] w' (RetN w' (d.weak P Q s ll y))) := fun w' y hy hx => by
      rw [hq, hr']; exact l7Weak_c s P Q a cap ll h1 h5 hP hQ h3 hv hrv d hg.2.2 b (off + c.words.length) (cb - c.words.length) y w' hy (HR.out.ext hx) (hlc.out.ext hx) (by omega) (by omega)
    have HF : Hid ((Kt.two 20 c d).weak P Q s ll x = andN (c.weak P Q s ll x) (d.weak P Q s ll x)) := rfl
    have HF2 : Hid ((Kt.two 19 c d).weak P Q s ll x = c.weak P Q s ll (d.weak P Q s ll x)) := rfl
    have hv1 := c.weak_lt P Q s ll x hx
    have hv2 := d.weak_lt P Q s ll x hx
    have hy : y = 19 ∨ y = 20 := hg.1
    replace hv1 : c.weak P Q s ll x < pow2 s := hv1
    replace hv2 : d.weak P Q s ll x < pow2 s := hv2
    rw [← hq, ← hr'] at hc hcb h40 hH ⊢
    clear hg hr hl hla hlc hlen hq hr' hx
    generalize c.weak P Q s ll = f at *
    have CB : Hid (∀ w0 : World, Calls Try.prog 57 #[.int .i64 (f x : Nat), .int .i64 (d.weak P Q s ll x : Nat)] w0 fun e w' => e = .returned (.int .i64 (andN (f x) (d.weak P Q s ll x) : Nat)) ∧ w0 = w') := fun w0 => l1Both_c _ _ w0 (by omega) (by omega)
    have ihb : Hid (∀ w', Ext w w' → Calls Try.prog 31 #[modelV s P Q a ll.length cap, .slice (some ⟨b, off, none⟩) q cb, .int .i64 x] w' (RetN w' (f x))) := fun w' hx => ih.out w' x hx2 hx
    have ihc : Hid (∀ w', Ext w w' → Calls Try.prog 31 #[modelV s P Q a ll.length cap, .slice (some ⟨b, off + q, none⟩) r (cb - q), .int .i64 x] w' (RetN w' (d.weak P Q s ll x))) := fun w' hx => ih2.out w' x hx2 hx
    have ihd : Hid (∀ w', Ext w w' → Calls Try.prog 31 #[modelV s P Q a ll.length cap, .slice (some ⟨b, off, none⟩) q cb, .int .i64 (d.weak P Q s ll x : Nat)] w' (RetN w' (f (d.weak P Q s ll x)))) := fun w' hx => ih.out w' _ hv2 hx
    clear ih ih2
    generalize d.weak P Q s ll x = N at *
    generalize f N = M at *
    generalize f x = K at *
    generalize pow2 s = p at *
    have hw1 : IntKind.i64.wrap ((q : Int) + r + 1 - 1) = (q : Int) + r := by rw [IntWalk.i64_in _ (by omega)]; omega
    have hqc : (q : Int) + r ≤ cb := by omega
    have hrn : ((q : Int) + r).toNat = q + r := by omega
    rcases hy with rfl | rfl
    · go_enter Try.func31, Try.ntmps31
      go_wp2_with fail
      refine (hH.out _ (by (repeat (first | exact Ext.refl _ | assumption | refine Ext.alloc ?_ _ | refine Ext.drewN ?_ _ | refine Ext.drew ?_)))).mono ?_
      rintro e w1 ⟨rfl, rfl⟩
      go_wp2
      have HB := Lib.hid ((box_of w s P Q (.slice a ll.length cap)).ext (w' := (w.alloc (.cells #[.int .i64 s, .int .i64 P, .int .i64 Q, .slice a ll.length cap] 28)).drew) (by (repeat (first | exact Ext.refl _ | assumption | refine Ext.alloc ?_ _ | refine Ext.drewN ?_ _ | refine Ext.drew ?_))))
      go_region_held3 (fun w' => w'.cell? ⟨w.heap.size, 0, none⟩ = some (.int .i64 s) ∧ w'.cell? ⟨w.heap.size, 1, none⟩ = some (.int .i64 P) ∧ w'.cell? ⟨w.heap.size, 2, none⟩ = some (.int .i64 Q) ∧ w'.cell? ⟨w.heap.size, 3, none⟩ = some (.slice a ll.length cap))
        (first
          | go_keep
          | (have E := Ext.trans (Ext.drew (Ext.refl _)) yk; have hk1 := HB.out.ext E; exact ⟨hk1.1, hk1.2.1, hk1.2.2.1, hk1.2.2.2⟩)
          | (have E := Ext.trans (Ext.trans (Ext.drew (Ext.refl _)) yk) yl; have hk1 := HB.out.ext E; exact ⟨hk1.1, hk1.2.1, hk1.2.2.1, hk1.2.2.2⟩))
        ((first
          | (go_at_call 31; have _t := yk; refine (ihd.out _ (Ext.trans (Ext.trans (by (repeat (first | exact Ext.refl _ | assumption | refine Ext.alloc ?_ _ | refine Ext.drewN ?_ _ | refine Ext.drew ?_))) yk) (Ext.refl _))).mono ?_; rintro e wl ⟨rfl, yl⟩)
          | (go_at_call 31; refine (ihc.out _ (by (repeat (first | exact Ext.refl _ | assumption | refine Ext.alloc ?_ _ | refine Ext.drewN ?_ _ | refine Ext.drew ?_)))).mono ?_; rintro e wk ⟨rfl, yk⟩)
          | (go_at_call 57; refine (CB.out _).mono ?_; rintro e wm ⟨rfl, rfl⟩)))
      have HX := Lib.hid (Ext.trans (Ext.trans (show Ext w _ by (repeat (first | exact Ext.refl _ | assumption | refine Ext.alloc ?_ _ | refine Ext.drewN ?_ _ | refine Ext.drew ?_))) yk) yl)
      clear yk yl
      go_wp2
      go_ret
      exact ⟨by rw [HF2.out]; rfl, HX.out⟩
    · go_enter Try.func31, Try.ntmps31
      go_wp2_with fail
      refine (hH.out _ (by (repeat (first | exact Ext.refl _ | assumption | refine Ext.alloc ?_ _ | refine Ext.drewN ?_ _ | refine Ext.drew ?_)))).mono ?_
      rintro e w1 ⟨rfl, rfl⟩
      go_wp2
      have HB := Lib.hid ((box_of w s P Q (.slice a ll.length cap)).ext (w' := (w.alloc (.cells #[.int .i64 s, .int .i64 P, .int .i64 Q, .slice a ll.length cap] 28)).drew) (by (repeat (first | exact Ext.refl _ | assumption | refine Ext.alloc ?_ _ | refine Ext.drewN ?_ _ | refine Ext.drew ?_))))
      go_region_held3 (fun w' => w'.cell? ⟨w.heap.size, 0, none⟩ = some (.int .i64 s) ∧ w'.cell? ⟨w.heap.size, 1, none⟩ = some (.int .i64 P) ∧ w'.cell? ⟨w.heap.size, 2, none⟩ = some (.int .i64 Q) ∧ w'.cell? ⟨w.heap.size, 3, none⟩ = some (.slice a ll.length cap))
        (first
          | go_keep
          | (have E := Ext.trans (Ext.drew (Ext.refl _)) yk; have hk1 := HB.out.ext E; exact ⟨hk1.1, hk1.2.1, hk1.2.2.1, hk1.2.2.2⟩)
          | (have E := Ext.trans (Ext.trans (Ext.drew (Ext.refl _)) yk) yl; have hk1 := HB.out.ext E; exact ⟨hk1.1, hk1.2.1, hk1.2.2.1, hk1.2.2.2⟩))
        ((first
          | (go_at_call 31; have _t := yk; refine (ihc.out _ (Ext.trans (Ext.trans (by (repeat (first | exact Ext.refl _ | assumption | refine Ext.alloc ?_ _ | refine Ext.drewN ?_ _ | refine Ext.drew ?_))) yk) (Ext.refl _))).mono ?_; rintro e wl ⟨rfl, yl⟩)
          | (go_at_call 31; refine (ihb.out _ (by (repeat (first | exact Ext.refl _ | assumption | refine Ext.alloc ?_ _ | refine Ext.drewN ?_ _ | refine Ext.drew ?_)))).mono ?_; rintro e wk ⟨rfl, yk⟩)
          | (go_at_call 57; refine (CB.out _).mono ?_; rintro e wm ⟨rfl, rfl⟩)))
      have HX := Lib.hid (Ext.trans (Ext.trans (show Ext w _ by (repeat (first | exact Ext.refl _ | assumption | refine Ext.alloc ?_ _ | refine Ext.drewN ?_ _ | refine Ext.drew ?_))) yk) yl)
      clear yk yl
      go_wp2
      go_ret
      exact ⟨by rw [HF.out]; rfl, HX.out⟩
end Go.Proofs.Ytgpfebpjiddjjaa
