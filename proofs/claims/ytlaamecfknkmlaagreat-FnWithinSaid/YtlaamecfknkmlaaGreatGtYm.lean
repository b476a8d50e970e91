/- Merged texts: contracts and plain lemmas (Ym). -/
import Derived.Test.YtlaamecfknkmlaaGreatGtYk
import Derived.Test.YtlaamecfknkmlaaGreatGt4
import Derived.Test.YtlaamecfknkmlaaGreatGt2
import Derived.Deep.RegionHeld3
namespace Go.Proofs.YtlaamecfknkmlaaGreat
set_option linter.unusedVariables false
open Go.RowKit Go.Kt

theorem indexFuncT_c (a : Option Addr) (cap : Nat) (l : List (List Int)) (cv : Value) (p : List Int → Bool) (w : World) (hl : RowsAt w a l) (hlen : l.length ≤ 4611686018427387904)
    (hf : ∀ ai ci r w1, r ∈ l → Ext w w1 → IntsAt w1 ai r → Calls Tryz.prog 73 #[.slice ai r.length ci, cv] w1 fun e w' => e = .returned (.bool (p r)) ∧ Ext w1 w') :
    Calls Tryz.prog 134 #[.slice a l.length cap, .func (.func 73) #[] #[cv]] w fun e w' => e = .returned (.int .i64 (findR p l)) ∧ Ext w w' := by
  obtain ⟨b, off, h1, h2⟩ := hl
  have H1 := Lib.hid h1
  have H2 := Lib.hid h2
  have HF := Lib.hid hf
  clear h1 h2 hf
  go_enter Tryz.func134, Tryz.ntmps134
  go_wp2
  go_loopw [8] (fun i wr => Hid (∃ k : Nat, k ≤ l.length ∧ i = .int .i64 k ∧ (∀ j, j < k → p (rowI l j) = false) ∧ Ext w wr)) (fun i _ => l.length - (intOf i).toNat)
  case atStart => exact Lib.hid ⟨0, Nat.zero_le _, rfl, fun j hj => absurd hj (Nat.not_lt_zero _), Ext.refl _⟩
  case round =>
    obtain ⟨k, hk, rfl, hno, hx⟩ := hrel.out
    clear hrel
    have hno' := Lib.hid hno
    clear hno
    by_cases hlt : k < l.length
    · obtain ⟨rfl, hb⟩ := H1.out (by omega)
      obtain ⟨ai, ci, hcw, hi⟩ := H2.out k hlt
      have hc := hx.cell' hcw hb
      have hmem := rowI_mem l k hlt
      cases hp : p (rowI l k)
      all_goals
        have hp' := Lib.hid hp
        have hcall := Lib.hid (HF.out ai ci (rowI l k) wr hmem hx (hi.ext hx))
        rw [hp] at hcall
        clear hp hmem hcw hi
        go_wp2_with fail
        refine (hcall.out).mono ?_
        rintro e w1 ⟨rfl, hx1⟩
        go_wp2
      · go_roundw
        case rel => exact Lib.hid ⟨k + 1, by omega, by go_num, upto_succ hno'.out hp'.out, hx.trans hx1⟩
        case measure => simp [intOf]; omega
      · go_ret
        exact ⟨by rw [findR_at p l k hlt hno'.out hp'.out]; rfl, hx.trans hx1⟩
    · obtain rfl : k = l.length := by omega
      go_wp2
      go_ret
      exact ⟨by rw [findR_none p l hno'.out]; rfl, hx⟩
theorem containsFuncT_c (a : Option Addr) (cap : Nat) (l : List (List Int)) (cv : Value) (p : List Int → Bool) (w : World) (hl : RowsAt w a l) (hlen : l.length ≤ 4611686018427387904)
    (hf : ∀ ai ci r w1, r ∈ l → Ext w w1 → IntsAt w1 ai r → Calls Tryz.prog 73 #[.slice ai r.length ci, cv] w1 fun e w' => e = .returned (.bool (p r)) ∧ Ext w1 w') :
    Calls Tryz.prog 72 #[.slice a l.length cap, .func (.func 73) #[] #[cv]] w fun e w' => e = .returned (.bool (l.any p)) ∧ Ext w w' := by
  have HC := Lib.hid (indexFuncT_c a cap l cv p w hl hlen hf)
  clear hf hl
  go_enter Tryz.func72, Tryz.ntmps72
  go_wp2_with fail
  refine HC.out.mono ?_
  rintro e w1 ⟨rfl, hx⟩
  go_wp2
  go_ret
  exact ⟨by rw [← findR_nonneg]; rfl, hx⟩
theorem traceClosure_c (b : Nat) (A : Nat) (hA : A ≤ 3) (q : Kt) (hg : q.Good) (hw : q.words.length ≤ 4096) (ai : Option Addr) (ci : Nat) (w : World) (hi : IntsAt w ai q.words) (hb : w.cell? ⟨b, 0, none⟩ = some (.int .i64 A)) :
    Calls Tryz.prog 73 #[.slice ai q.words.length ci, .pointer (some ⟨b, 0, none⟩)] w fun e w' => e = .returned (.bool (q.ends.testBit A)) ∧ Ext w w' := by
  have zb := lt_of_cell hb
  have HB := Lib.hid hb
  have CE : Hid (∀ w', Ext w w' → Calls Tryz.prog 75 #[.slice ai q.words.length ci] w' fun e w'' => e = .returned (.int .i64 (q.ends : Nat)) ∧ Ext w' w'') := fun w' e => ends_c ai ci q.words q w' (hi.ext e) hg rfl (KvL.words hg hw)
  have CH : Hid (∀ w', Calls Tryz.prog 74 #[.int .i64 (q.ends : Nat), .int .i64 A] w' fun e w'' => e = .returned (.bool (q.ends.testBit A)) ∧ w' = w'') := fun w' => holds_c q.ends A w' (by have := q.ends_lt; omega) (by omega)
  clear hi hg hw
  generalize q.ends = BE at *
  generalize q.words.length = n at *
  go_enter Tryz.func73, Tryz.ntmps73
  go_wp2
  go_region_held3 (fun w' => w'.cell? ⟨b, 0, none⟩ = some (.int .i64 A))
    (first
      | go_keep
      | exact (Ext.trans (show Ext w _ by (repeat (first | exact Ext.refl _ | assumption | refine Ext.alloc ?_ _ | refine Ext.drewN ?_ _ | refine Ext.drew ?_))) yk).cell' HB.out zb)
    ((first
      | (go_at_call 75; refine (CE.out _ (by (repeat (first | exact Ext.refl _ | assumption | refine Ext.alloc ?_ _ | refine Ext.drewN ?_ _ | refine Ext.drew ?_)))).mono ?_; rintro e wk ⟨rfl, yk⟩)
      | (go_at_call 74; refine (CH.out _).mono ?_; rintro e wl ⟨rfl, rfl⟩)))
  all_goals
    go_wp2
    go_ret
    exact ⟨rfl, Ext.trans (show Ext w _ by (repeat (first | exact Ext.refl _ | assumption | refine Ext.alloc ?_ _ | refine Ext.drewN ?_ _ | refine Ext.drew ?_))) (Ext.trans yk (by (repeat (first | exact Ext.refl _ | assumption | refine Ext.alloc ?_ _ | refine Ext.drewN ?_ _ | refine Ext.drew ?_))))⟩

set_option maxRecDepth 100000 in
set_option maxHeartbeats 4000000 in
theorem traceBy_c (a b : Option Addr) (c d : Nat) (e tr : List Int) (w : World) (he : IntsE w (ek 3) a e) (hf : e.length ≤ c) (ht : IntsAt w b tr) (hle : e.length ≤ 4194304) (hlt : tr.length ≤ 4194304) :
    Calls Tryz.prog 16 #[.slice a e.length c, .slice b tr.length d] w fun r w' => r = .returned (.bool (tbB e tr)) ∧ Ext w w' := by
  have CK := Lib.hid (iKatValid_c a c e w he.1 hle)
  have CV := Lib.hid (iTraceValid_c b d tr w ht hlt)
  cases hk : kvB e
  · have HF : Hid (tbB e tr = false) := by unfold Hid tbB; rw [hk]; rfl
    rw [hk] at CK
    rw [HF.out]
    clear he ht
    go_enter Tryz.func16, Tryz.ntmps16
    go_wp2_with (go_at_call 67; refine CK.out.mono ?_; rintro e w1 ⟨rfl, rfl⟩)
    go_ret
    exact ⟨rfl, Ext.refl _⟩
  cases hv : tvB tr
  · have HF : Hid (tbB e tr = false) := by unfold Hid tbB; rw [hk, hv]; rfl
    rw [hk] at CK
    rw [hv] at CV
    rw [HF.out]
    clear he ht
    go_enter Tryz.func16, Tryz.ntmps16
    go_wp2_with (first | (go_at_call 67; refine CK.out.mono ?_; rintro e w1 ⟨rfl, rfl⟩) | (go_at_call 68; refine CV.out.mono ?_; rintro e w1 ⟨rfl, rfl⟩))
    go_ret
    exact ⟨rfl, Ext.refl _⟩
  have HF : Hid (tbB e tr = (setL e tr (tr.length / 2)).any fun p => (treeW p).ends.testBit (nth tr (tr.length - 1)).toNat) := by unfold Hid tbB; rw [hk, hv]; rfl
  generalize tbB e tr = TB at *
  rw [hk] at CK
  rw [hv] at CV
  obtain ⟨t, hg, rfl⟩ := kvB_tree hk
  have hw40 := (kvB_len hk).2
  have hv41 := tvB_len hv
  have HL : Hid (∀ k, 2 * k + 1 ≤ tr.length → ∀ p, p ∈ setL t.words tr k → ∃ q : Kt, q.Good ∧ q.words = p ∧ q.bnd ≤ 1640 ∧ q.words.length ≤ 1640) := fun k h p hp => by
    obtain ⟨q, h1, h2, h3⟩ := left_set hg hv k h p hp
    exact ⟨q, h1, h2, left_bnd hw40 h3⟩
  have HN : Hid (∀ k, 2 * k + 1 ≤ tr.length → (setL t.words tr k).length ≤ 40) := fun k h => set_len hg hw40 hv k h
  have HAt : Hid (∀ j, j < tr.length → j % 2 = 0 → ∃ A : Nat, A ≤ 3 ∧ nth tr j = (A : Int)) := fun j h1 h2 => by
    have := tvB_tok hv h1
    rw [tokB_even h2] at this
    simp [inR] at this
    exact ⟨(nth tr j).toNat, by omega, by omega⟩
  have HAc : Hid (∀ j, j < tr.length → j % 2 = 1 → 16 ≤ nth tr j ∧ nth tr j ≤ 18) := fun j h1 h2 => by
    have := tvB_tok hv h1
    rw [tokB_odd h2] at this
    simpa [inR] using this
  obtain ⟨bt, off, h1, h2⟩ := ht
  obtain ⟨rfl, zt⟩ := h1 (by omega)
  have HTR := Lib.hid h2
  have HE := Lib.hid he
  have HI : Hid (setL t.words tr 0 = [t.words]) := rfl
  have hwp := t.words_pos
  clear h1 h2 hk hv hg he hle hlt
  generalize hS : setL t.words tr = S at *
  have HS : Hid (∀ k, S (k + 1) = ordL ((S k).flatMap fun p => partsL (nth tr (2 * k)).toNat (nth tr (2 * k + 1)) (treeW p))) := fun k => by rw [← hS]; rfl
  clear hS
  generalize t.words = e at *
  clear t
  go_enter Tryz.func16, Tryz.ntmps16
  go_wp2_with (first | (go_at_call 67; refine CK.out.mono ?_; rintro e w1 ⟨rfl, rfl⟩) | (go_at_call 68; refine CV.out.mono ?_; rintro e w1 ⟨rfl, rfl⟩))
  clear CK CV
  go_loopw [5, 6] (fun v i wr => Hid (∃ j : Nat, j % 2 = 0 ∧ j + 1 ≤ tr.length ∧ i = .int .i64 j ∧ OwnLs wr w.heap.size (ek 3) 23 v (S (j / 2)) ∧ Ext w wr)) (fun _ i _ => tr.length - (intOf i).toNat)
  case atStart => exact Lib.hid ⟨0, rfl, by omega, rfl, by rw [show S (0 / 2) = [e] from HI.out]; exact OwnLs.lit _ HE.out hf (Nat.le_refl _), by (repeat (first | exact Ext.refl _ | assumption | refine Ext.alloc ?_ _ | refine Ext.drewN ?_ _ | refine Ext.drew ?_))⟩
  case round =>
    obtain ⟨j, hj2, hj, rfl, ho, hx⟩ := hrel.out
    clear hrel
    obtain ⟨av, cv, rfl⟩ := ho.shape
    have HO := Lib.hid ho
    have HX := Lib.hid hx
    have hz := hx.size
    have hSn := HN.out (j / 2) (by omega)
    have HL1 := Lib.hid (HL.out (j / 2) (by omega))
    by_cases hlt : j + 1 < tr.length
    · obtain ⟨wo, hwo⟩ : ∃ wo, wo = wr := ⟨_, rfl⟩
      subst hwo
      have d0 := hx.cell' (HTR.out j (by omega)) zt
      have d1 := hx.cell' (HTR.out (j + 1) hlt) zt
      obtain ⟨A, hA, eA⟩ := HAt.out j (by omega) hj2
      have hac := HAc.out (j + 1) hlt (by omega)
      have HS1 : Hid (S ((j + 2) / 2) = ordL ((S (j / 2)).flatMap fun p => partsL A (nth tr (j + 1)) (treeW p))) := by
        have := HS.out (j / 2)
        rw [show 2 * (j / 2) = j by omega, eA, Int.toNat_natCast] at this
        rw [show (j + 2) / 2 = j / 2 + 1 by omega]; exact this
      rw [eA] at d0
      generalize nth tr (j + 1) = act at *
      generalize S (j / 2) = SJ at *
      obtain ⟨m, hm⟩ : ∃ m, m = SJ.length := ⟨_, rfl⟩
      have HM := Lib.hid hm
      rw [← hm] at hSn ⊢
      have HFl : Hid (∀ k, ((SJ.take k).flatMap fun p => partsL A act (treeW p)).length ≤ k * 1640) := flat_len (fun p hp => by
        obtain ⟨q, hq, rfl, -, hb⟩ := HL1.out p hp
        have := partsL_len A act (treeW q.words)
        rw [treeW_words hq] at this ⊢
        omega)
      have D0 := Lib.hid d0
      have D1 := Lib.hid d1
      have zt1 := Nat.lt_of_lt_of_le zt hz
      have hwj : IntKind.i64.wrap ((j : Int) + 1) = (j : Int) + 1 := IntWalk.i64_in _ (by omega)
      have hj0 : 0 ≤ (j : Int) + 1 := by omega
      have hjt : ((j : Int) + 1).toNat = j + 1 := by omega
      have hji : (j : Int) < (tr.length : Int) := by omega
      have hji1 : (j : Int) + 1 < (tr.length : Int) := by omega
      clear hm ho hx eA
      go_wp2
      go_loopw [7, 30] (fun v i wr => Hid (∃ k : Nat, k ≤ m ∧ i = .int .i64 k ∧ OwnLs wr wo.heap.size (ek 3) 23 v ((SJ.take k).flatMap fun p => partsL A act (treeW p)) ∧ Ext wo wr)) (fun _ i _ => m - (intOf i).toNat)
      case atStart => exact Lib.hid ⟨0, Nat.zero_le _, rfl, OwnLs.nil _ _ _ _, by (repeat (first | exact Ext.refl _ | assumption | refine Ext.alloc ?_ _ | refine Ext.drewN ?_ _ | refine Ext.drew ?_))⟩
      case round =>
        obtain ⟨k, hkm, rfl, ho2, hx2⟩ := hrel.out
        clear hrel
        have HO2 := Lib.hid ho2
        have HX2 := Lib.hid hx2
        have hz2 := hx2.size
        have hfl := HFl.out k
        obtain ⟨a7, c7, rfl⟩ := ho2.shape
        by_cases hlt2 : k < m
        · have hkk : k < SJ.length := by rw [← HM.out]; exact hlt2
          obtain ⟨gS, rfl, -, zS, -, hrows⟩ := HO.out.row (by omega)
          obtain ⟨ai, ci, r1, r2, r3⟩ := hrows k hkk
          have r1' := hx2.cell' r1 zS
          obtain ⟨q, hq, hqw, hqb, hql⟩ := HL1.out (rowI SJ k) (rowI_mem SJ k hkk)
          have hN : Hid (((SJ.take (k + 1)).flatMap fun p => partsL A act (treeW p)) = ((SJ.take k).flatMap fun p => partsL A act (treeW p)) ++ partsL A act q) := by
            unfold Hid; rw [flat_take hkk, ← hqw, treeW_words hq]
          have CB : Hid (∀ w', Ext wo w' → Calls Tryz.prog 69 #[.slice ai (rowI SJ k).length ci] w' (RetT w' q)) := fun w' x => by
            rw [← hqw] at r3 ⊢
            exact buildL_c ai ci q.words q w' ((r3.ext x).1) hq rfl (KvL.words hq (by omega))
          have CP : Hid (∀ w' g', TreeAt w' (fun _ => False) q g' → Calls Tryz.prog 70 #[.pointer (some ⟨g', 0, none⟩), .int .i64 A, .int .i64 act] w' (RetLs (ek 3) 23 w' (partsL A act q))) := fun w' g' x => parts_c A act hA hac.1 hac.2 q hq (by omega) (by omega) g' w' x (fun _ => False) (fun _ h => h.elim)
          have hpl : (partsL A act q).length ≤ 1640 := by have := partsL_len A act q; omega
          have e0 := hx2.cell' d0 zt1
          have e1 := hx2.cell' d1 zt1
          have E0 := Lib.hid e0
          have E1 := Lib.hid e1
          have zt2 := Nat.lt_of_lt_of_le zt1 hz2
          have hk40 : k * 1640 ≤ 40 * 1640 := Nat.mul_le_mul (by omega) (Nat.le_refl _)
          clear hrows r1 r2 r3 ho2 hx2 hqw hqb hql hq hkk d0 d1 HFl HL1
          generalize ((SJ.take k).flatMap fun p => partsL A act (treeW p)) = la at *
          generalize partsL A act q = lb at *
          generalize (rowI SJ k).length = nr at *
          go_wp2
          go_region_held3 (fun w' => w'.cell? ⟨bt, off + j, none⟩ = some (.int .i64 A) ∧ w'.cell? ⟨bt, off + (j + 1), none⟩ = some (.int .i64 act))
            (first
              | go_keep
              | (have E := Ext.trans (show Ext wr _ by (repeat (first | exact Ext.refl _ | assumption | refine Ext.alloc ?_ _ | refine Ext.drewN ?_ _ | refine Ext.drew ?_))) yk; exact ⟨E.cell' E0.out zt2, E.cell' E1.out zt2⟩)
              | (have E := Ext.trans (Ext.trans (show Ext wr _ by (repeat (first | exact Ext.refl _ | assumption | refine Ext.alloc ?_ _ | refine Ext.drewN ?_ _ | refine Ext.drew ?_))) yk) (Ext.trans (by (repeat (first | exact Ext.refl _ | assumption | refine Ext.alloc ?_ _ | refine Ext.drewN ?_ _ | refine Ext.drew ?_))) yl); exact ⟨E.cell' E0.out zt2, E.cell' E1.out zt2⟩)
              | exact ⟨y7.cell' D0.out zt1, y7.cell' D1.out zt1⟩)
            ((first
              | (go_at_call 69; refine (CB.out _ (HX2.out.trans (by (repeat (first | exact Ext.refl _ | assumption | refine Ext.alloc ?_ _ | refine Ext.drewN ?_ _ | refine Ext.drew ?_))))).mono ?_; rintro e wk ⟨gk, rfl, tk, yk⟩; have hzk := yk.size)
              | (go_at_call 70; refine (CP.out _ gk (tk.ext (by (repeat (first | exact Ext.refl _ | assumption | refine Ext.alloc ?_ _ | refine Ext.drewN ?_ _ | refine Ext.drew ?_))))).mono ?_; rintro e wl ⟨vl, rfl, ol, yl⟩; obtain ⟨al, cl, rfl⟩ := ol.shape; obtain ⟨vs, hsrc⟩ := ol.src; have okl := HO2.out.ext (Ext.trans (Ext.trans (show Ext wr _ by (repeat (first | exact Ext.refl _ | assumption | refine Ext.alloc ?_ _ | refine Ext.drewN ?_ _ | refine Ext.drew ?_))) yk) (Ext.trans (by (repeat (first | exact Ext.refl _ | assumption | refine Ext.alloc ?_ _ | refine Ext.drewN ?_ _ | refine Ext.drew ?_))) yl)))
              | (refine astep_append_ls rfl _ _ _ rfl wo.heap.size (ek 3) 23 neE Tryz.underlying24 infoInts _ la rfl (okl.ext (by (repeat (first | exact Ext.refl _ | assumption | refine Ext.alloc ?_ _ | refine Ext.drewN ?_ _ | refine Ext.drew ?_)))) _ _ _ vs lb rfl rfl (hsrc.ext (by (repeat (first | exact Ext.refl _ | assumption | refine Ext.alloc ?_ _ | refine Ext.drewN ?_ _ | refine Ext.drew ?_)))) (by omega) (by have h1 := yl.size; have h2 := yk.size; (try simp at h1); (try simp at h2); first | omega | (simp; omega)) ?_; intro v7 w7 o7 g7; have y7 := OwnLs.grown (w0 := wo) (okl.ext (by (repeat (first | exact Ext.refl _ | assumption | refine Ext.alloc ?_ _ | refine Ext.drewN ?_ _ | refine Ext.drew ?_)))) (HX2.out.trans (Ext.trans (Ext.trans (Ext.trans (show Ext wr _ by (repeat (first | exact Ext.refl _ | assumption | refine Ext.alloc ?_ _ | refine Ext.drewN ?_ _ | refine Ext.drew ?_))) yk) (Ext.trans (by (repeat (first | exact Ext.refl _ | assumption | refine Ext.alloc ?_ _ | refine Ext.drewN ?_ _ | refine Ext.drew ?_))) yl)) (by (repeat (first | exact Ext.refl _ | assumption | refine Ext.alloc ?_ _ | refine Ext.drewN ?_ _ | refine Ext.drew ?_))))) g7)))
          all_goals
            have Y7 := Lib.hid y7
            rw [← hN.out] at o7
            have O7 := Lib.hid o7
            clear o7 g7 y7 okl ol yk yl hsrc tk
            go_wp2
            go_roundw
            case rel => exact Lib.hid ⟨k + 1, by omega, by go_num, O7.out, Y7.out⟩
            case measure => simp [intOf]; omega
        · obtain rfl : k = m := by omega
          have hek : SJ.take k = SJ := by rw [HM.out, List.take_length]
          rw [hek] at ho2 HO2 hfl ⊢
          have hk40 : k * 1640 ≤ 40 * 1640 := Nat.mul_le_mul (by omega) (Nat.le_refl _)
          have CO := Lib.hid (ordered_ret a7 c7 _ w wr (ho2.mono hz) (HX.out.trans hx2) (by omega) (fun x hx => by
            obtain ⟨p, hp, hx'⟩ := List.mem_flatMap.1 hx
            obtain ⟨q, hq, rfl, hqb, -⟩ := HL1.out p hp
            rw [treeW_words hq] at hx'
            have := (partsL_row hac.1 hx').2; omega))
          rw [← HS1.out] at CO
          clear ho2 hx2 hek d0 d1 HO2 HFl HL1
          generalize (SJ.flatMap fun p => partsL A act (treeW p)) = la at *
          go_wp2_with fail
          refine CO.out.mono ?_
          rintro e w4 ⟨v, rfl, o1, x1⟩
          go_wp2
          go_roundw
          case rel => exact Lib.hid ⟨j + 2, by omega, by omega, by go_num, o1, x1⟩
          case measure => simp [intOf]; omega
    · have ej : j / 2 = tr.length / 2 := by omega
      have d0 := hx.cell' (HTR.out (tr.length - 1) (by omega)) zt
      obtain ⟨A, hA, eA⟩ := HAt.out (tr.length - 1) (by omega) (by omega)
      have HFA := HF.out
      rw [eA, Int.toNat_natCast, ← ej] at HFA
      replace HFA := Lib.hid HFA
      rw [eA] at d0
      clear HF
      have hwl : IntKind.i64.wrap ((tr.length : Int) - 1) = ((tr.length - 1 : Nat) : Int) := by rw [IntWalk.i64_in _ (by omega)]; omega
      have hwi : ((tr.length - 1 : Nat) : Int) < (tr.length : Int) := by omega
      generalize S (j / 2) = SJ at *
      have CC : Hid (∀ w' g', Ext wr w' → w'.cell? ⟨g', 0, none⟩ = some (.int .i64 A) → Calls Tryz.prog 72 #[.slice av SJ.length cv, .func (.func 73) #[] #[.pointer (some ⟨g', 0, none⟩)]] w' fun e w'' => e = .returned (.bool (SJ.any fun p => (treeW p).ends.testBit A)) ∧ Ext w' w'') := fun w' g' x hg' =>
        containsFuncT_c av cv SJ _ (fun p => (treeW p).ends.testBit A) w' ((HO.out.ext x).rows) (by omega) (fun ai ci r w1 hr x1 hi => by
          obtain ⟨q, hq, rfl, -, hql⟩ := HL1.out r hr
          rw [treeW_words hq]
          exact traceClosure_c g' A hA q hq (by omega) ai ci w1 hi (x1.cell' hg' (lt_of_cell hg')))
      clear ho HO HL1
      go_wp2_with fail
      refine (CC.out _ _ (by (repeat (first | exact Ext.refl _ | assumption | refine Ext.alloc ?_ _ | refine Ext.drewN ?_ _ | refine Ext.drew ?_))) (by simp [go_sem])).mono ?_
      rintro e w4 ⟨rfl, x1⟩
      have X1 := Lib.hid (Ext.trans (show Ext wr _ by (repeat (first | exact Ext.refl _ | assumption | refine Ext.alloc ?_ _ | refine Ext.drewN ?_ _ | refine Ext.drew ?_))) x1)
      clear x1 CC
      go_wp2
      go_ret
      exact ⟨by rw [HFA.out]; rfl, HX.out.trans X1.out⟩
end Go.Proofs.YtlaamecfknkmlaaGreat
