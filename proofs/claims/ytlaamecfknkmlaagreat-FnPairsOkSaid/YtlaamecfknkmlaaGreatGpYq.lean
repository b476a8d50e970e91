/- Merged texts: contracts and plain lemmas (Yq). -/
import Derived.Test.YtlaamecfknkmlaaGreatGp13
import Derived.Deep.RegionHeld3
namespace Go.Proofs.YtlaamecfknkmlaaGreat
set_option linter.unusedVariables false
open Go.RowKit Go.Kt

theorem split_last {L : List Int} (h : 0 < L.length) : ∃ xs x, L = xs ++ [x] := by
  refine ⟨L.take (L.length - 1), L[L.length - 1], ?_⟩
  have h1 : L.drop (L.length - 1) = [L[L.length - 1]] := by
    rw [List.drop_eq_getElem_cons (by omega), show L.length - 1 + 1 = L.length by omega, List.drop_length]
  rw [← h1, List.take_append_drop]
/-- Two lists glued: the first is of odd length. -/
theorem glue_c (g m : Nat) (w0 w : World) (a b : Option Addr) (ca cb : Nat) (la ys : List Int)
    (h : WordSt w0 w g m (.slice a la.length ca) la) (hy : OwnI w w0.heap.size 3 (.slice b ys.length cb) ys) (hnb : la.length ≤ 100000) (hkb : ys.length ≤ 100000) (hm : m ≤ 90000) (ho1 : la.length % 2 = 1) (ho2 : ys.length % 2 = 1) :
    Calls Tryz.prog 161 #[.pointer (some ⟨g, 0, none⟩), .slice a la.length ca, .slice b ys.length cb] w (DrewO w0 g (m + 1) (la.length + ys.length)) := by
  obtain ⟨xs, x, rfl⟩ := split_last (show 0 < la.length by omega)
  have e : (xs ++ [x]).length = xs.length + 1 := by simp
  rw [e] at h hnb ho1 ⊢
  have := l20Glue_c g m w0 w a b ca cb xs.length ys.length xs ys x rfl rfl h hy (by omega) hkb hm (by omega) ho2
  rw [show xs.length + 1 + ys.length = xs.length + ys.length + 1 by omega]
  exact this
theorem WordSt.rebase {w w2 w3 : World} {g m m' : Nat} {v0 v : Value} {L0 L : List Int} (h : WordSt w w2 g m v0 L0) (k : WordSt w2 w3 g m' v L) : WordSt w w3 g m' v L :=
  ⟨h.hg, OwnI.mono k.own h.tch.size, k.rd, h.tch.trans k.tch⟩
theorem lit3I (w : World) (B E : Nat) (x y z : Int) (hB : B ≤ w.heap.size) : OwnI (w.alloc (.cells #[.int .i64 x, .int .i64 y, .int .i64 z] E)) B E (.slice (some ⟨w.heap.size, 0, none⟩) 3 3) [x, y, z] :=
  World.ownsRow_lit (base := B) (e := E) (size := 1) w #[.int .i64 x, .int .i64 y, .int .i64 z] 3 hB (by unfold maxLen; omega) rfl
theorem modA (A : Nat) (h : A ≤ 3) : ((A : Int) + 1).tmod 4 = (((A + 1) % 4 : Nat) : Int) := by
  rcases (show A = 0 ∨ A = 1 ∨ A = 2 ∨ A = 3 by omega) with rfl | rfl | rfl | rfl <;> rfl
set_option maxRecDepth 100000 in
set_option maxHeartbeats 4000000 in
theorem l20Of_c : ∀ (t : Kt), t.Good → t.words.length ≤ 40 → ∀ (d : Nat), d ≤ 2 → ∀ (g m b off cb : Nat) (w : World), Rd w g m → m + kof t.words.length d ≤ 80000 → g < b → IntsAt w (some ⟨b, off, none⟩) t.words → t.words.length ≤ cb →
    Calls Tryz.prog 124 #[.pointer (some ⟨g, 0, none⟩), .slice (some ⟨b, off, none⟩) t.words.length cb, .int .i64 (d : Int)] w (DrewO w g (m + kof t.words.length d) (lof t.words.length d))
  | .leaf x, hgd, hw, d, hd, g, m, b, off, cb, w, hr, hm, hgb, hi, hcb => by
    have hgd : 0 ≤ x ∧ x ≤ 18 := hgd
    have hg := hr.lt
    obtain ⟨c0, zb⟩ := IntsAt.at_ (xs := []) (ys := []) hi
    replace c0 : w.cell? ⟨b, off, none⟩ = some (.int .i64 x) := c0
    have C0 := Lib.hid c0
    have HH := Lib.hid hr
    have hk4 := kof_one d 1 (Nat.le_refl _)
    have hl3 := lof_one d 1 (Nat.le_refl _)
    have hlen : (Kt.leaf x).words.length = 1 := rfl
    rw [hlen] at hm ⊢
    generalize kof 1 d = K0 at *
    generalize lof 1 d = N0 at *
    clear hr hi hw hcb hlen
    by_cases h15 : x ≤ 15
    · obtain ⟨X, rfl⟩ := Int.eq_ofNat_of_zero_le hgd.1
      go_enter Tryz.func124, Tryz.ntmps124
      go_wp2_with fail
      refine (pick_c g m 4 _ (HH.out.ext (by (repeat (first | exact Ext.refl _ | assumption | refine Ext.alloc ?_ _ | refine Ext.drewN ?_ _ | refine Ext.drew ?_)))) (by omega)).mono ?_
      rintro e w1 ⟨y, rfl, hy, hr1, ht1⟩
      have H1 : Hid (WordSt w w1 g (m + 1) (.slice none 0 0) []) := ⟨hg, OwnI.nil _ _ _, hr1, ht1⟩
      have hy3 : y ≤ 3 := by omega
      have c1 := (World.cell?_of_block (a := ⟨b, off, none⟩) (ht1.block b zb (.inr (by omega)))).trans C0.out
      have zb1 := Nat.lt_of_lt_of_le zb ht1.size
      clear hr1 ht1 hy c0
      go_wp2
      go_loopw [8, 9] (fun at8 i wr => Hid (∃ (A k : Nat), A ≤ 3 ∧ k ≤ 4 ∧ at8 = .int .i64 A ∧ i = .int .i64 k ∧ Ext w1 wr)) (fun _ i _ => 4 - (intOf i).toNat)
      case atStart => exact Lib.hid ⟨y, 0, hy3, by omega, rfl, rfl, by (repeat (first | exact Ext.refl _ | assumption | refine Ext.alloc ?_ _ | refine Ext.drewN ?_ _ | refine Ext.drew ?_))⟩
      case round =>
        obtain ⟨A, k, hA, hk, rfl, rfl, hx⟩ := hrel.out
        clear hrel
        have c2 := hx.cell' c1 zb1
        have hwA : IntKind.i64.wrap ((A : Int) + 1) = (A : Int) + 1 := IntWalk.i64_in _ (by omega)
        have hmA := modA A hA
        have CB : Hid (∀ w', Calls Tryz.prog 107 #[.int .i64 X, .int .i64 A] w' fun e w'' => e = .returned (.int .i64 ((X.testBit A).toNat : Nat)) ∧ w' = w'') := fun w' => l1Bit_c X A w' (by omega) (by omega)
        have fin : Hid (∀ w', Ext w1 w' → DrewO w g (m + K0) N0 (.returned (.slice (some ⟨w'.heap.size, 0, none⟩) 1 1)) (w'.alloc (.cells #[.int .i64 A] 3))) := fun w' x1 =>
          ⟨_, [(A : Int)], rfl, (H1.out.other (x1.trans (Ext.alloc (Ext.refl _) _)) (OwnI.lit1 _ _ _ _ (by have := H1.out.tch.size; have := x1.size; omega))).mono (by omega), by simp; omega, by simp⟩
        by_cases hk4 : k < 4
        · cases hb : X.testBit A
          · rw [hb] at CB
            have hw4 : IntKind.i64.wrap ((k : Int) + 1) = (k : Int) + 1 := IntWalk.i64_in _ (by omega)
            clear fin
            go_wp2_with (go_at_call 107; refine (CB.out _).mono ?_; rintro e w2 ⟨rfl, rfl⟩)
            go_roundw
            case rel => exact Lib.hid ⟨(A + 1) % 4, k + 1, by omega, by omega, by go_num, by go_num, hx⟩
            case measure => simp [intOf]; omega
          · rw [hb] at CB
            go_wp2_with (go_at_call 107; refine (CB.out _).mono ?_; rintro e w2 ⟨rfl, rfl⟩)
            go_ret
            exact fin.out _ hx
        · go_wp2
          go_ret
          exact fin.out _ hx
    · have e15 : decide (x ≤ 15) = false := by simpa using h15
      go_enter Tryz.func124, Tryz.ntmps124
      go_wp2_with fail
      refine (pick_c g m 4 _ (HH.out.ext (by (repeat (first | exact Ext.refl _ | assumption | refine Ext.alloc ?_ _ | refine Ext.drewN ?_ _ | refine Ext.drew ?_)))) (by omega)).mono ?_
      rintro e w1 ⟨y, rfl, hy, hr1, ht1⟩
      have H1 : Hid (WordSt w w1 g (m + 1) (.slice none 0 0) []) := ⟨hg, OwnI.nil _ _ _, hr1, ht1⟩
      have c1 := (World.cell?_of_block (a := ⟨b, off, none⟩) (ht1.block b zb (.inr (by omega)))).trans C0.out
      have C1 := Lib.hid c1
      have zb1 := Nat.lt_of_lt_of_le zb ht1.size
      clear hr1 ht1 hy c0
      go_wp2
      go_region_held3 (fun w' => w'.cell? ⟨b, off, none⟩ = some (.int .i64 x))
        (first
          | go_keep
          | exact (World.cell?_of_block (a := ⟨b, off, none⟩) (tk.block b (by first | exact zb1 | (simp; omega)) (.inr (by omega)))).trans (by first | exact C1.out | (simp [go_sem]; exact C1.out)))
        ((go_at_call 54; refine (pick_c g _ 4 _ (H1.out.rd.ext (by (repeat (first | exact Ext.refl _ | assumption | refine Ext.alloc ?_ _ | refine Ext.drewN ?_ _ | refine Ext.drew ?_)))) (by omega)).mono ?_; rintro e wk ⟨z, rfl, hz, rk, tk⟩))
      all_goals
        have H2 := Lib.hid (H1.out.drawn (by (repeat (first | exact Ext.refl _ | assumption | refine Ext.alloc ?_ _ | refine Ext.drewN ?_ _ | refine Ext.drew ?_))) tk rk)
        clear rk tk
        go_wp2
        go_ret
        exact ⟨_, [(y : Int), x, (z : Int)], rfl, (H2.out.other (by (repeat (first | exact Ext.refl _ | assumption | refine Ext.alloc ?_ _ | refine Ext.drewN ?_ _ | refine Ext.drew ?_))) (lit3I _ _ _ _ _ _ (by have := H2.out.tch.size; (try simp); omega))).mono (by omega), by simp; omega, by simp⟩
  | .star a, hgd, hw, d, hd, g, m, b, off, cb, w, hr, hm, hgb, hi, hcb => by
    have hg := hr.lt
    have hlen : (Kt.star a).words.length = a.words.length + 1 := by simp [Kt.words]
    obtain ⟨c0, zb⟩ := IntsAt.at_ (xs := a.words) (ys := []) (show IntsAt w (some ⟨b, off, none⟩) (a.words ++ 21 :: []) from hi)
    have HIa : Hid (IntsAt w (some ⟨b, off, none⟩) a.words) := IntsAt.left hi
    have C0 := Lib.hid c0
    have HH := Lib.hid hr
    have hk640 := kof_le (n := (Kt.star a).words.length) (d := d) hw hd
    have hk4 := kof_one d (Kt.star a).words.length (by omega)
    have hl3 := lof_one d (Kt.star a).words.length (by omega)
    have ha1 := a.words_pos
    rw [hlen] at hm hw hcb hk640 hk4 hl3 ⊢
    have HG : Hid (∀ d', d = d' + 1 → 2 * (kof a.words.length d' + 1) + 2 ≤ kof (a.words.length + 1) d ∧ 1 + 2 * lof a.words.length d' ≤ lof (a.words.length + 1) d ∧ kof a.words.length d' ≤ 640 ∧ lof a.words.length d' ≤ 480) := fun d' e => by
      subst e; exact ⟨kof_star _ _, lof_star _ _, kof_le (by omega) (by omega), lof_le (by omega) (by omega)⟩
    have IH : Hid (∀ d' m' w', d = d' + 1 → Rd w' g m' → m' + kof a.words.length d' ≤ 80000 → IntsAt w' (some ⟨b, off, none⟩) a.words → Calls Tryz.prog 124 #[.pointer (some ⟨g, 0, none⟩), .slice (some ⟨b, off, none⟩) a.words.length cb, .int .i64 (d' : Int)] w' (DrewO w' g (m' + kof a.words.length d') (lof a.words.length d'))) := fun d' m' w' e h1 h2 h3 =>
      l20Of_c a hgd (by omega) d' (by omega) g m' b off cb w' h1 h2 hgb h3 (by omega)
    clear hr hi hlen hgd
    generalize kof (a.words.length + 1) d = K0 at *
    generalize lof (a.words.length + 1) d = N0 at *
    generalize hna : a.words.length = n at *
    have hw0 : IntKind.i64.wrap (n : Int) = (n : Int) := IntWalk.i64_in _ (by omega)
    have hw1 : IntKind.i64.wrap ((n : Int) + 1 - 1) = (n : Int) := by rw [IntWalk.i64_in _ (by omega)]; omega
    have hnl : (n : Int) < (n : Int) + 1 := by omega
    have hnc : (n : Int) ≤ (cb : Int) := by omega
    go_enter Tryz.func124, Tryz.ntmps124
    go_wp2_with fail
    refine (pick_c g m 4 _ (HH.out.ext (by (repeat (first | exact Ext.refl _ | assumption | refine Ext.alloc ?_ _ | refine Ext.drewN ?_ _ | refine Ext.drew ?_)))) (by omega)).mono ?_
    rintro e w1 ⟨y, rfl, hy, hr1, ht1⟩
    have H1 : Hid (WordSt w w1 g (m + 1) (.slice none 0 0) []) := ⟨hg, OwnI.nil _ _ _, hr1, ht1⟩
    have c1 := (World.cell?_of_block (a := ⟨b, off + n, none⟩) (ht1.block b zb (.inr (by omega)))).trans C0.out
    have hz1 := ht1.size
    clear hr1 ht1 hy c0
    go_wp2_with fail
    have H1' : Hid (WordSt w (w1.alloc (.cells #[.int .i64 y] 3)) g (m + 1) (.slice (some ⟨w1.heap.size, 0, none⟩) 1 1) [(y : Int)]) := H1.out.other (by (repeat (first | exact Ext.refl _ | assumption | refine Ext.alloc ?_ _ | refine Ext.drewN ?_ _ | refine Ext.drew ?_))) (OwnI.lit1 _ _ _ _ hz1)
    refine (pick_c g _ 3 _ (H1'.out.rd.ext (by (repeat (first | exact Ext.refl _ | assumption | refine Ext.alloc ?_ _ | refine Ext.drewN ?_ _ | refine Ext.drew ?_)))) (by omega)).mono ?_
    rintro e w2 ⟨x2, rfl, hx2, hr2, ht2⟩
    have H2 := Lib.hid (H1'.out.drawn (by (repeat (first | exact Ext.refl _ | assumption | refine Ext.alloc ?_ _ | refine Ext.drewN ?_ _ | refine Ext.drew ?_))) ht2 hr2)
    have hx22 : x2 ≤ 2 := by omega
    clear hr2 ht2 hx2 H1 H1' c1
    go_wp2
    go_loopw [14, 15] (fun v k wr => Hid (∃ (j i : Nat) (L : List Int), k = .int .i64 j ∧ i + j ≤ 2 ∧ (i = 0 ∨ 0 < d) ∧ L.length ≤ 1 + i * lof n (d - 1) ∧ L.length % 2 = 1 ∧ WordSt w wr g (m + 2 + i * (kof n (d - 1) + 1)) v L)) (fun _ k _ => (intOf k).toNat)
    case atStart => exact Lib.hid ⟨x2, 0, _, rfl, by omega, .inl rfl, by simp, by simp, H2.out.mono (by omega)⟩
    case round =>
      obtain ⟨j, i, L, rfl, hij, hid, hL, hodd, hs⟩ := hrel.out
      clear hrel H2
      obtain ⟨av, cv, rfl⟩ := hs.shape
      have HS := Lib.hid hs
      have hz := hs.tch.size
      clear hs
      have hwj : IntKind.i64.wrap ((j : Int) - 1) = (j : Int) - 1 := IntWalk.i64_in _ (by omega)
      have fin : Hid ((i = 0 ∨ 0 < d) → m + 2 + i * (kof n (d - 1) + 1) ≤ m + K0 ∧ 1 + i * lof n (d - 1) ≤ N0) := fun h => by
        rcases h with rfl | h
        · omega
        · obtain ⟨d', rfl⟩ : ∃ d', d = d' + 1 := ⟨d - 1, by omega⟩
          obtain ⟨q1, q2, -, -⟩ := HG.out d' rfl
          rw [Nat.add_sub_cancel]
          have h1 : i * (kof n d' + 1) ≤ 2 * (kof n d' + 1) := Nat.mul_le_mul (by omega) (Nat.le_refl _)
          have h2 : i * lof n d' ≤ 2 * lof n d' := Nat.mul_le_mul (by omega) (Nat.le_refl _)
          omega
      by_cases hc : 0 < j ∧ 0 < d
      · obtain ⟨hj0, hd0⟩ := hc
        obtain ⟨d', hd'⟩ : ∃ d', d = d' + 1 := ⟨d - 1, by omega⟩
        have ed : d - 1 = d' := by omega
        have HKd : Hid (kof n (d - 1) = kof n d') := by unfold Hid; rw [ed]
        have HNd : Hid (lof n (d - 1) = lof n d') := by unfold Hid; rw [ed]
        rw [ed] at hL HS
        obtain ⟨q1, q2, q3, q4⟩ := HG.out d' hd'
        have h1 : i * (kof n d' + 1) ≤ 1 * (kof n d' + 1) := Nat.mul_le_mul (by omega) (Nat.le_refl _)
        have h2 : i * lof n d' ≤ 1 * lof n d' := Nat.mul_le_mul (by omega) (Nat.le_refl _)
        have HK : Hid ((i + 1) * (kof n d' + 1) = i * (kof n d' + 1) + (kof n d' + 1)) := Nat.succ_mul _ _
        have HN : Hid ((i + 1) * lof n d' = i * lof n d' + lof n d') := Nat.succ_mul _ _
        have hwd0 : IntKind.i64.wrap (d' : Int) = (d' : Int) := IntWalk.i64_in _ (by omega)
        have hwd : IntKind.i64.wrap ((d : Int) - 1) = (d' : Int) := by rw [IntWalk.i64_in _ (by omega)]; omega
        have IH2 : Hid (∀ w', Ext wr w' → Calls Tryz.prog 124 #[.pointer (some ⟨g, 0, none⟩), .slice (some ⟨b, off, none⟩) n cb, .int .i64 (d' : Int)] w' (DrewO w' g (m + 2 + i * (kof n d' + 1) + kof n d') (lof n d'))) := fun w' x =>
          IH.out d' _ w' hd' (HS.out.rd.ext x) (by omega) ((IntsAt.drawn HIa.out HS.out.tch hgb).ext x)
        clear fin IH HG hid hd' ed
        generalize i * (kof n d' + 1) = iK at *
        generalize i * lof n d' = iN at *
        generalize kof n d' = K1 at *
        generalize lof n d' = N1 at *
        go_wp2_with fail
        refine (IH2.out _ (by (repeat (first | exact Ext.refl _ | assumption | refine Ext.alloc ?_ _ | refine Ext.drewN ?_ _ | refine Ext.drew ?_)))).mono ?_
        rintro e w4 ⟨v4, L4, rfl, ws4, hl4, ho4⟩
        have H4 := Lib.hid (HS.out.drawn (by (repeat (first | exact Ext.refl _ | assumption | refine Ext.alloc ?_ _ | refine Ext.drewN ?_ _ | refine Ext.drew ?_))) ws4.tch ws4.rd)
        have hz4 := ws4.tch.size
        have O4 : Hid (OwnI w4 w.heap.size 3 v4 L4) := OwnI.mono ws4.own (by (try simp); omega)
        obtain ⟨a4, c4, rfl, -⟩ := O4.out.shape
        clear ws4 HS IH2
        go_wp2_with fail
        refine (glue_c g _ w _ av a4 cv c4 L L4 (H4.out.ext (by (repeat (first | exact Ext.refl _ | assumption | refine Ext.alloc ?_ _ | refine Ext.drewN ?_ _ | refine Ext.drew ?_)))) (O4.out.ext (by (repeat (first | exact Ext.refl _ | assumption | refine Ext.alloc ?_ _ | refine Ext.drewN ?_ _ | refine Ext.drew ?_)))) (by omega) (by omega) (by omega) hodd ho4).mono ?_
        rintro e w5 ⟨v5, L5, rfl, ws5, hl5, ho5⟩
        have H5 := Lib.hid ws5
        have HL5 := Lib.hid hl5
        have HO5 := Lib.hid ho5
        clear ws5 H4 O4 hl5 ho5
        go_wp2
        go_roundw
        case rel => exact Lib.hid ⟨j - 1, i + 1, L5, by congr 1; omega, by omega, .inr hd0, by rw [HNd.out, HN.out]; have := HL5.out; omega, HO5.out, H5.out.mono (by rw [HKd.out, HK.out]; omega)⟩
        case measure => simp [intOf]; omega
      · have hfin := fin.out hid
        have H9 := Lib.hid (HS.out.mono (m' := m + K0) hfin.1)
        have hLN : L.length ≤ N0 := by omega
        clear fin HS hfin hL IH HG
        by_cases hj0 : 0 < j
        · have hd0 : d = 0 := by by_cases h : 0 < d; exact absurd ⟨hj0, h⟩ hc; omega
          subst hd0
          go_wp2
          go_ret
          exact ⟨_, L, rfl, H9.out.ext (by (repeat (first | exact Ext.refl _ | assumption | refine Ext.alloc ?_ _ | refine Ext.drewN ?_ _ | refine Ext.drew ?_))), hLN, hodd⟩
        · go_wp2
          go_ret
          exact ⟨_, L, rfl, H9.out.ext (by (repeat (first | exact Ext.refl _ | assumption | refine Ext.alloc ?_ _ | refine Ext.drewN ?_ _ | refine Ext.drew ?_))), hLN, hodd⟩
  | .two s a c, hgd, hw, d, hd, g, m, b, off, cb, w, hr, hm, hgb, hi, hcb => by
    have hg := hr.lt
    have hlen : (Kt.two s a c).words.length = a.words.length + c.words.length + 1 := by simp [Kt.words]; omega
    obtain ⟨c0, zb⟩ := IntsAt.at_ (xs := a.words ++ c.words) (ys := []) (show IntsAt w (some ⟨b, off, none⟩) ((a.words ++ c.words) ++ s :: []) from hi)
    rw [List.length_append] at c0
    have HIa : Hid (IntsAt w (some ⟨b, off, none⟩) a.words) := IntsAt.left (IntsAt.left hi)
    have HIc : Hid (IntsAt w (some ⟨b, off + a.words.length, none⟩) c.words) := IntsAt.right (IntsAt.left hi)
    have HI := Lib.hid hi
    have C0 := Lib.hid c0
    have HH := Lib.hid hr
    have hk640 := kof_le (n := (Kt.two s a c).words.length) (d := d) hw hd
    have ha1 := a.words_pos
    have hc1 := c.words_pos
    have hs : s = 19 ∨ s = 20 := hgd.1
    have CHv : Hid (∀ w', Touched w w' g (g + 1) → Calls Tryz.prog 143 #[.slice (some ⟨b, off, none⟩) (a.words.length + c.words.length + 1) cb] w' fun e w'' => e = .returned (.tuple #[.slice (some ⟨b, off, none⟩) a.words.length cb, .slice (some ⟨b, off + a.words.length, none⟩) c.words.length (cb - a.words.length)]) ∧ w'' = w'.drew) := fun w' t =>
      two_halves b off cb s a c hgd.2.2 w' (IntsAt.drawn HI.out t hgb) hcb (by omega)
    rw [hlen] at hm hw hcb hk640 ⊢
    have hk2 := kof_two a.words.length c.words.length d
    have hl2 := lof_two a.words.length c.words.length d
    have hla := lof_le (n := a.words.length) (d := d) (by omega) hd
    have hlc := lof_le (n := c.words.length) (d := d) (by omega) hd
    have IHa : Hid (∀ m' w', Rd w' g m' → m' + kof a.words.length d ≤ 80000 → Touched w w' g (g + 1) → Calls Tryz.prog 124 #[.pointer (some ⟨g, 0, none⟩), .slice (some ⟨b, off, none⟩) a.words.length cb, .int .i64 (d : Int)] w' (DrewO w' g (m' + kof a.words.length d) (lof a.words.length d))) := fun m' w' h1 h2 h3 =>
      l20Of_c a hgd.2.1 (by omega) d hd g m' b off cb w' h1 h2 hgb (IntsAt.drawn HIa.out h3 hgb) (by omega)
    have IHc : Hid (∀ m' w', Rd w' g m' → m' + kof c.words.length d ≤ 80000 → Touched w w' g (g + 1) → Calls Tryz.prog 124 #[.pointer (some ⟨g, 0, none⟩), .slice (some ⟨b, off + a.words.length, none⟩) c.words.length (cb - a.words.length), .int .i64 (d : Int)] w' (DrewO w' g (m' + kof c.words.length d) (lof c.words.length d))) := fun m' w' h1 h2 h3 =>
      l20Of_c c hgd.2.2 (by omega) d hd g m' b (off + a.words.length) (cb - a.words.length) w' h1 h2 hgb (IntsAt.drawn HIc.out h3 hgb) (by omega)
    clear hr hi hlen hgd HIa HIc HI
    generalize kof (a.words.length + c.words.length + 1) d = K0 at *
    generalize lof (a.words.length + c.words.length + 1) d = N0 at *
    generalize kof a.words.length d = Ka at *
    generalize kof c.words.length d = Kc at *
    generalize lof a.words.length d = Na at *
    generalize lof c.words.length d = Nc at *
    generalize a.words.length = na at *
    generalize c.words.length = nc at *
    obtain ⟨n, hn⟩ : ∃ n, n = na + nc := ⟨_, rfl⟩
    rw [← hn] at c0 C0 CHv hw hcb ⊢
    have hw0 : IntKind.i64.wrap (n : Int) = (n : Int) := IntWalk.i64_in _ (by omega)
    have hw1 : IntKind.i64.wrap ((n : Int) + 1 - 1) = (n : Int) := by rw [IntWalk.i64_in _ (by omega)]; omega
    have hnl : (n : Int) < (n : Int) + 1 := by omega
    clear hn
    rcases hs with rfl | rfl
    · go_enter Tryz.func124, Tryz.ntmps124
      go_wp2_with fail
      refine (pick_c g m 4 _ (HH.out.ext (by (repeat (first | exact Ext.refl _ | assumption | refine Ext.alloc ?_ _ | refine Ext.drewN ?_ _ | refine Ext.drew ?_)))) (by omega)).mono ?_
      rintro e w1 ⟨y, rfl, hy, hr1, ht1⟩
      have H1 : Hid (WordSt w w1 g (m + 1) (.slice none 0 0) []) := ⟨hg, OwnI.nil _ _ _, hr1, ht1⟩
      have c1 := (World.cell?_of_block (a := ⟨b, off + n, none⟩) (ht1.block b zb (.inr (by omega)))).trans C0.out
      clear hr1 ht1 hy c0
      go_wp2_with fail
      refine (CHv.out _ ((H1.out.ext (by (repeat (first | exact Ext.refl _ | assumption | refine Ext.alloc ?_ _ | refine Ext.drewN ?_ _ | refine Ext.drew ?_)))).tch)).mono ?_
      rintro e w2 ⟨rfl, rfl⟩
      go_wp2_with fail
      have H2 := Lib.hid (H1.out.ext (w' := w1.drew) (Ext.drew (Ext.refl _)))
      refine (IHa.out _ _ (H2.out.rd.ext (by (repeat (first | exact Ext.refl _ | assumption | refine Ext.alloc ?_ _ | refine Ext.drewN ?_ _ | refine Ext.drew ?_)))) (by omega) ((H2.out.ext (by (repeat (first | exact Ext.refl _ | assumption | refine Ext.alloc ?_ _ | refine Ext.drewN ?_ _ | refine Ext.drew ?_)))).tch)).mono ?_
      rintro e w3 ⟨v3, L3, rfl, ws3, hl3, ho3⟩
      have H3 := Lib.hid ((H2.out.ext (by (repeat (first | exact Ext.refl _ | assumption | refine Ext.alloc ?_ _ | refine Ext.drewN ?_ _ | refine Ext.drew ?_)))).rebase ws3)
      obtain ⟨a3, c3, rfl⟩ := H3.out.shape
      clear ws3 H1 H2 CHv IHa c1
      go_wp2_with fail
      refine (IHc.out _ _ (H3.out.rd.ext (by (repeat (first | exact Ext.refl _ | assumption | refine Ext.alloc ?_ _ | refine Ext.drewN ?_ _ | refine Ext.drew ?_)))) (by omega) ((H3.out.ext (by (repeat (first | exact Ext.refl _ | assumption | refine Ext.alloc ?_ _ | refine Ext.drewN ?_ _ | refine Ext.drew ?_)))).tch)).mono ?_
      rintro e w4 ⟨v4, L4, rfl, ws4, hl4, ho4⟩
      have H4 := Lib.hid (H3.out.drawn (by (repeat (first | exact Ext.refl _ | assumption | refine Ext.alloc ?_ _ | refine Ext.drewN ?_ _ | refine Ext.drew ?_))) ws4.tch ws4.rd)
      have O4 : Hid (OwnI w4 w.heap.size 3 v4 L4) := OwnI.mono ws4.own (by have := H3.out.tch.size; (try simp); omega)
      obtain ⟨a4, c4, rfl, -⟩ := O4.out.shape
      clear ws4 H3 IHc
      go_wp2_with fail
      refine (glue_c g _ w _ a3 a4 c3 c4 L3 L4 (H4.out.ext (by (repeat (first | exact Ext.refl _ | assumption | refine Ext.alloc ?_ _ | refine Ext.drewN ?_ _ | refine Ext.drew ?_)))) (O4.out.ext (by (repeat (first | exact Ext.refl _ | assumption | refine Ext.alloc ?_ _ | refine Ext.drewN ?_ _ | refine Ext.drew ?_)))) (by omega) (by omega) (by omega) ho3 ho4).mono ?_
      rintro e w5 ⟨v5, L5, rfl, ws5, hl5, ho5⟩
      have H5 := Lib.hid ws5
      clear ws5 H4 O4
      go_wp2
      go_ret
      exact ⟨_, L5, rfl, (H5.out.ext (by (repeat (first | exact Ext.refl _ | assumption | refine Ext.alloc ?_ _ | refine Ext.drewN ?_ _ | refine Ext.drew ?_)))).mono (by omega), by omega, ho5⟩
    · go_enter Tryz.func124, Tryz.ntmps124
      go_wp2_with fail
      refine (pick_c g m 4 _ (HH.out.ext (by (repeat (first | exact Ext.refl _ | assumption | refine Ext.alloc ?_ _ | refine Ext.drewN ?_ _ | refine Ext.drew ?_)))) (by omega)).mono ?_
      rintro e w1 ⟨y, rfl, hy, hr1, ht1⟩
      have H1 : Hid (WordSt w w1 g (m + 1) (.slice none 0 0) []) := ⟨hg, OwnI.nil _ _ _, hr1, ht1⟩
      have c1 := (World.cell?_of_block (a := ⟨b, off + n, none⟩) (ht1.block b zb (.inr (by omega)))).trans C0.out
      clear hr1 ht1 hy c0
      go_wp2_with fail
      refine (CHv.out _ ((H1.out.ext (by (repeat (first | exact Ext.refl _ | assumption | refine Ext.alloc ?_ _ | refine Ext.drewN ?_ _ | refine Ext.drew ?_)))).tch)).mono ?_
      rintro e w2 ⟨rfl, rfl⟩
      have H2 := Lib.hid (H1.out.ext (w' := w1.drew) (Ext.drew (Ext.refl _)))
      go_wp2_with fail
      refine (pick_c g _ 2 _ (H2.out.rd.ext (by (repeat (first | exact Ext.refl _ | assumption | refine Ext.alloc ?_ _ | refine Ext.drewN ?_ _ | refine Ext.drew ?_)))) (by omega)).mono ?_
      rintro e w3 ⟨z, rfl, hz, hr3, ht3⟩
      have H3 := Lib.hid (H2.out.drawn (by (repeat (first | exact Ext.refl _ | assumption | refine Ext.alloc ?_ _ | refine Ext.drewN ?_ _ | refine Ext.drew ?_))) ht3 hr3)
      clear hr3 ht3 H1 H2 c1 CHv
      by_cases hz0 : z = 0
      · subst hz0
        go_wp2_with fail
        refine (IHa.out _ _ (H3.out.rd.ext (by (repeat (first | exact Ext.refl _ | assumption | refine Ext.alloc ?_ _ | refine Ext.drewN ?_ _ | refine Ext.drew ?_)))) (by omega) ((H3.out.ext (by (repeat (first | exact Ext.refl _ | assumption | refine Ext.alloc ?_ _ | refine Ext.drewN ?_ _ | refine Ext.drew ?_)))).tch)).mono ?_
        rintro e w4 ⟨v4, L4, rfl, ws4, hl4, ho4⟩
        have H4 := Lib.hid ((H3.out.ext (by (repeat (first | exact Ext.refl _ | assumption | refine Ext.alloc ?_ _ | refine Ext.drewN ?_ _ | refine Ext.drew ?_)))).rebase ws4)
        clear ws4 H3
        go_wp2
        go_ret
        exact ⟨_, L4, rfl, (H4.out.ext (by (repeat (first | exact Ext.refl _ | assumption | refine Ext.alloc ?_ _ | refine Ext.drewN ?_ _ | refine Ext.drew ?_)))).mono (by omega), by omega, ho4⟩
      · have hzb : ((z : Int) == 0) = false := by simp; omega
        go_wp2_with fail
        refine (IHc.out _ _ (H3.out.rd.ext (by (repeat (first | exact Ext.refl _ | assumption | refine Ext.alloc ?_ _ | refine Ext.drewN ?_ _ | refine Ext.drew ?_)))) (by omega) ((H3.out.ext (by (repeat (first | exact Ext.refl _ | assumption | refine Ext.alloc ?_ _ | refine Ext.drewN ?_ _ | refine Ext.drew ?_)))).tch)).mono ?_
        rintro e w4 ⟨v4, L4, rfl, ws4, hl4, ho4⟩
        have H4 := Lib.hid ((H3.out.ext (by (repeat (first | exact Ext.refl _ | assumption | refine Ext.alloc ?_ _ | refine Ext.drewN ?_ _ | refine Ext.drew ?_)))).rebase ws4)
        clear ws4 H3
        go_wp2
        go_ret
        exact ⟨_, L4, rfl, (H4.out.ext (by (repeat (first | exact Ext.refl _ | assumption | refine Ext.alloc ?_ _ | refine Ext.drewN ?_ _ | refine Ext.drew ?_)))).mono (by omega), by omega, ho4⟩
end Go.Proofs.YtlaamecfknkmlaaGreat
