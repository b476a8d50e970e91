/- Merged texts: contracts and plain lemmas (Yk). -/
import Derived.Test.YtlaamecfknkmlaaGreatGtYj
import Derived.Test.YtlaamecfknkmlaaGreatGt1
import Derived.Test.YtlaamecfknkmlaaGreatGt4
import Derived.Test.YtlaamecfknkmlaaGreatGt2
import Derived.Deep.RegionHeld3
namespace Go.Proofs.YtlaamecfknkmlaaGreat
set_option linter.unusedVariables false
open Go.RowKit Go.Kt

theorem ordered_ret {X : Nat → Prop} (a : Option Addr) (cap : Nat) (ll : List (List Int)) (w0 w : World) (h : OwnLs w w0.heap.size (Ek.mk 3 X) 23 (.slice a ll.length cap) ll) (hx : Ext w0 w) (hn : ll.length ≤ 4194304) (hf : ∀ x, x ∈ ll → x.length ≤ 4194304) :
    Calls Tryz.prog 71 #[.slice a ll.length cap] w (RetLs (Ek.mk 3 X) 23 w0 (ordL ll)) := by
  refine (ordered_c a cap ll _ w h hn hf).mono ?_
  rintro e w' ⟨v', rfl, o, g⟩
  exact ⟨v', rfl, o, h.grown hx g⟩
set_option maxRecDepth 100000 in
set_option maxHeartbeats 4000000 in
theorem parts_c (A : Nat) (act : Int) (hA : A ≤ 3) (h16 : 16 ≤ act) (h18 : act ≤ 18) : ∀ (t : Kt), t.Good → t.words.length ≤ 4096 → t.bnd ≤ 4096 → ∀ (g : Nat) (w : World), TreeAt w (fun _ => False) t g → ∀ (X : Nat → Prop), (∀ k, X k → k < w.heap.size) →
      Calls Tryz.prog 70 #[.pointer (some ⟨g, 0, none⟩), .int .i64 A, .int .i64 act] w (RetLs (Ek.mk 3 X) 23 w (partsL A act t))
  | .leaf y, hg, hw, hb, g, w, ht, X, hX => by
    have HX0 : Hid (∀ B, w.heap.size ≤ B → ∀ w' : World, ∀ k, B ≤ k → k < w'.heap.size → ¬ X k) := fun B hB w' k hk _ hx => by have := hX k hx; omega
    have hg : 0 ≤ y ∧ y ≤ 18 := hg
    have c0 : w.cell? ⟨g, 0, none⟩ = some (.int .i64 y) := ht.2.1
    have zg := lt_of_cell c0
    clear ht
    have HP : Hid (partsL A act (.leaf y) = if y = act then [[15]] else []) := partsL_leaf A act y A
    by_cases h15 : y ≤ 15
    · have hact : inB y 16 18 = false := by simp [inB]; omega
      rw [if_neg (show ¬ y = act by omega)] at HP
      have e1 : (y == 19) = false := by simp; omega
      have e2 : (y == 20) = false := by simp; omega
      have e3 : (y == 21) = false := by simp; omega
      rw [HP.out]
      have CO := Lib.hid (ordered_ret (X := X) none 0 [] w w (OwnLs.nil _ _ _ _) (Ext.refl _) (by simp) (fun x h => by cases h))
      clear hg hw hb HP hX
      go_enter Tryz.func70, Tryz.ntmps70
      go_wp2_with fail
      refine (actB_c _ _).mono ?_
      rw [hact]
      rintro e w1 ⟨rfl, rfl⟩
      go_wp2_with fail
      refine CO.out.mono ?_
      rintro e w1 ⟨v, rfl, o1, x1⟩
      go_wp2
      go_ret
      exact ⟨v, rfl, o1, x1⟩
    · have hact : inB y 16 18 = true := by simp [inB]; omega
      by_cases hya : y = act
      · rw [if_pos hya] at HP
        subst hya
        rw [HP.out]
        have CO : Hid (∀ a cap w', OwnLs w' w.heap.size (Ek.mk 3 X) 23 (.slice a 1 cap) [[15]] → Ext w w' → Calls Tryz.prog 71 #[.slice a 1 cap] w' (RetLs (Ek.mk 3 X) 23 w [[15]])) := fun a cap w' o x =>
          ordered_ret a cap [[15]] w w' o x (by simp) (fun x h => by simp at h; subst h; simp)
        clear hg hw hb HP hX
        go_enter Tryz.func70, Tryz.ntmps70
        go_wp2_with fail
        refine (actB_c _ _).mono ?_
        rw [hact]
        rintro e w1 ⟨rfl, rfl⟩
        go_wp2_with (at_builtin; (refine any_append_ls (by rfl) _ _ _ rfl w.heap.size (Ek.mk 3 X) 23 neE Tryz.underlying24 infoInts _ [] rfl (OwnLs.nil _ _ _ _) _ 1 1 _ [[15]] rfl rfl (SrcLs.one (c := 1) (l := [15]) (a := some ⟨w.heap.size, 0, none⟩) (OwnI.intsX ((OwnI.lit1 w w.heap.size 3 15 (Nat.le_refl _)).ext (by (repeat (first | exact Ext.refl _ | assumption | refine Ext.alloc ?_ _ | refine Ext.drewN ?_ _ | refine Ext.drew ?_)))) (HX0.out _ (Nat.le_refl _) _)) (by simp) (by simp [go_sem])) (by simp) (by first | (simp; done) | (simp; omega)) ?_))
        intro v7 w7 o7 g7
        have hx7 := Lib.hid (OwnLs.grown (OwnLs.nil _ _ (Ek.mk 3 X) 23) (show Ext w _ by (repeat (first | exact Ext.refl _ | assumption | refine Ext.alloc ?_ _ | refine Ext.drewN ?_ _ | refine Ext.drew ?_))) g7)
        obtain ⟨a7, c7, rfl⟩ := o7.shape
        have O7 := Lib.hid o7
        clear o7 g7
        go_wp2_with fail
        refine (CO.out _ _ _ O7.out hx7.out).mono ?_
        rintro e w1 ⟨v, rfl, o1, x1⟩
        go_wp2
        go_ret
        exact ⟨v, rfl, o1, x1⟩
      · rw [if_neg hya] at HP
        rw [HP.out]
        have e1 : (y == act) = false := by simp; exact hya
        have CO := Lib.hid (ordered_ret (X := X) none 0 [] w w (OwnLs.nil _ _ _ _) (Ext.refl _) (by simp) (fun x h => by cases h))
        clear hg hw hb HP hX
        go_enter Tryz.func70, Tryz.ntmps70
        go_wp2_with fail
        refine (actB_c _ _).mono ?_
        rw [hact]
        rintro e w1 ⟨rfl, rfl⟩
        go_wp2_with fail
        refine CO.out.mono ?_
        rintro e w1 ⟨v, rfl, o1, x1⟩
        go_wp2
        go_ret
        exact ⟨v, rfl, o1, x1⟩
  | .star b, hg, hw, hb, g, w, ht, X, hX => by
    have HX0 : Hid (∀ B, w.heap.size ≤ B → ∀ w' : World, ∀ k, B ≤ k → k < w'.heap.size → ¬ X k) := fun B hB w' k hk _ hx => by have := hX k hx; omega
    have ht0 := Lib.hid ht
    obtain ⟨-, c0, h, c, ga, c1, -, c2, hta⟩ := ht
    replace c2 : w.cell? ⟨h, 0, none⟩ = some (.pointer (some ⟨ga, 0, none⟩)) := c2
    have zg := lt_of_cell c0
    have zh := lt_of_cell c2
    have C0 := Lib.hid c0
    have C1 := Lib.hid c1
    have C2 := Lib.hid c2
    have hbs := bnd_star b
    have ih : Hid (Calls Tryz.prog 70 #[.pointer (some ⟨ga, 0, none⟩), .int .i64 A, .int .i64 act] w (RetLs (Ek.mk 3 X) 23 w (partsL A act b))) :=
      parts_c A act hA h16 h18 b hg (by have : (Kt.star b).words.length = b.words.length + 1 := (by simp [Kt.words]); omega) (by omega) ga w hta X hX
    have HP : Hid (partsL A act (.star b) = ordL ((partsL A act b).map (behindL · (Kt.star b).words))) := partsL_star A act b
    have hrow : ∀ x, x ∈ partsL A act b → 1 ≤ x.length ∧ x.length ≤ 4096 := fun x hx => by have := partsL_row h16 hx; omega
    have hLl : (partsL A act b).length ≤ 4096 := by have := partsL_len A act b; have : (Kt.star b).words.length = b.words.length + 1 := (by simp [Kt.words]); omega
    have CST : Hid (∀ w', Ext w w' → Calls Tryz.prog 111 #[.pointer (some ⟨g, 0, none⟩)] w' (RetI 3 w' (Kt.star b).words)) := fun w' e => steps_c (.star b) hw g w' (ht0.out.ext e)
    have hWp := (Kt.star b).words_pos
    have hact : inB 21 16 18 = false := rfl
    generalize partsL A act b = L at *
    generalize partsL A act (.star b) = R at *
    generalize (Kt.star b).words = M at *
    rw [HP.out]
    have HR := Lib.hid hrow
    have HLl := Lib.hid hLl
    have HW := Lib.hid hw
    have CO : Hid (∀ a cap w', OwnLs w' w.heap.size (Ek.mk 3 X) 23 (.slice a (L.map (behindL · M)).length cap) (L.map (behindL · M)) → Ext w w' → Calls Tryz.prog 71 #[.slice a (L.map (behindL · M)).length cap] w' (RetLs (Ek.mk 3 X) 23 w (ordL (L.map (behindL · M))))) := fun a cap w' o x =>
      ordered_ret a cap _ w w' o x (by rw [List.length_map]; omega) (fun x hx => by
        obtain ⟨p, hp, rfl⟩ := List.mem_map.1 hx
        have := hrow p hp; have := behindL_len p M; omega)
    clear hg hb ht0 hta hrow HP hbs hLl hw hX
    go_enter Tryz.func70, Tryz.ntmps70
    go_wp2_with fail
    refine (actB_c _ _).mono ?_
    rw [hact]
    rintro e w1 ⟨rfl, rfl⟩
    go_wp2_with fail
    refine ih.out.mono ?_
    rintro e w1 ⟨vL, rfl, oL, x1⟩
    obtain ⟨aL, cL, rfl⟩ := oL.shape
    have OL := Lib.hid oL
    have X1 := Lib.hid x1
    have hz1 := x1.size
    have d0 := x1.cell' c0 zg
    have d1 := x1.cell' c1 zg
    have d2 := x1.cell' c2 zh
    obtain ⟨m, hm⟩ : ∃ m, m = L.length := ⟨_, rfl⟩
    have HM := Lib.hid hm
    have hm4 : m ≤ 4096 := by rw [hm]; exact HLl.out
    rw [← hm]
    clear hm oL x1 ih
    go_wp2
    go_loopw [7, 123] (fun v i wr => Hid (∃ k : Nat, k ≤ m ∧ i = .int .i64 k ∧ OwnLs wr w1.heap.size (Ek.mk 3 X) 23 v ((L.take k).map (behindL · M)) ∧ Ext w1 wr)) (fun _ i _ => m - (intOf i).toNat)
    case atStart => exact Lib.hid ⟨0, Nat.zero_le _, rfl, OwnLs.nil _ _ _ _, by (repeat (first | exact Ext.refl _ | assumption | refine Ext.alloc ?_ _ | refine Ext.drewN ?_ _ | refine Ext.drew ?_))⟩
    case round =>
      obtain ⟨k, hkm, rfl, ho, hx⟩ := hrel.out
      clear hrel
      have HO := Lib.hid ho
      have HX := Lib.hid hx
      have hz := hx.size
      obtain ⟨av, cv, rfl⟩ := ho.shape
      clear d0 d1 d2
      by_cases hlt : k < m
      · have hkk : k < L.length := by rw [← HM.out]; exact hlt
        obtain ⟨gL, rfl, -, zL, -, hrows⟩ := OL.out.row (by omega)
        obtain ⟨ai, ci, r1, r2, r3⟩ := hrows k hkk
        have r1' := hx.cell' r1 zL
        have hmem := HR.out _ (rowI_mem2 hkk)
        have CB : Hid (∀ w' b d, Ext wr w' → IntsAt w' b M → Calls Tryz.prog 129 #[.slice ai (rowI L k).length ci, .slice b M.length d] w' (RetI 3 w' (behindL (rowI L k) M))) := fun w' b d e hi => by
          have := HW.out
          exact behind_c ai b ci d (rowI L k) M w' ((r3.ext (hx.trans e)).1) hi (by omega) (by omega) (by omega) (by omega)
        have HN : Hid ((L.take (k + 1)).map (behindL · M) = (L.take k).map (behindL · M) ++ [behindL (rowI L k) M]) := map_take1 (f := (behindL · M)) hkk
        have hl1 : ((L.take k).map (behindL · M)).length ≤ 4096 := by rw [List.length_map, List.length_take]; have := HLl.out; omega
        have CS2 := Lib.hid (CST.out wr (X1.out.trans hx))
        clear hrows r1 r2 r3 ho hx hmem hkk CST
        generalize (L.take k).map (behindL · M) = la at *
        generalize behindL (rowI L k) M = lb at *
        generalize (rowI L k).length = nr at *
        go_wp2_with fail
        refine CS2.out.mono ?_
        rintro e w2 ⟨v2, rfl, o2, x2⟩
        obtain ⟨a2, c2', rfl, i2⟩ := o2.shape
        have C3 := Lib.hid (CB.out w2 a2 c2' x2 i2)
        have X2 := Lib.hid x2
        have HZ2 : Hid (w.heap.size ≤ w2.heap.size) := Nat.le_trans hz1 (Nat.le_trans hz x2.size)
        clear o2 x2 i2 CB CS2
        go_wp2_with fail
        refine C3.out.mono ?_
        rintro e w3 ⟨v3, rfl, o3, x3⟩
        obtain ⟨a3, c3, rfl, -⟩ := o3.shape
        have O3 := Lib.hid o3
        have X3 := Lib.hid (X2.out.trans x3)
        have hz3 := X3.out.size
        have hf3 := o3.fit
        clear o3 x3 X2 C3
        go_wp2_with (at_builtin; refine any_append_ls (by rfl) _ _ _ rfl w1.heap.size (Ek.mk 3 X) 23 neE Tryz.underlying24 infoInts _ la rfl (HO.out.ext (Ext.trans X3.out (by (repeat (first | exact Ext.refl _ | assumption | refine Ext.alloc ?_ _ | refine Ext.drewN ?_ _ | refine Ext.drew ?_))))) _ 1 1 _ [lb] rfl rfl (SrcLs.one (c := c3) (l := lb) (a := a3) (OwnI.intsX (O3.out.ext (by (repeat (first | exact Ext.refl _ | assumption | refine Ext.alloc ?_ _ | refine Ext.drewN ?_ _ | refine Ext.drew ?_)))) (HX0.out _ HZ2.out _)) hf3 (by simp [go_sem])) (by first | omega | (simp; omega)) (by first | omega | (simp; omega)) ?_)
        intro v7 w7 o7 g7
        have hx7 := Lib.hid (OwnLs.grown (HO.out.ext (Ext.trans X3.out (by (repeat (first | exact Ext.refl _ | assumption | refine Ext.alloc ?_ _ | refine Ext.drewN ?_ _ | refine Ext.drew ?_))))) (HX.out.trans (Ext.trans X3.out (by (repeat (first | exact Ext.refl _ | assumption | refine Ext.alloc ?_ _ | refine Ext.drewN ?_ _ | refine Ext.drew ?_))))) g7)
        rw [← HN.out] at o7
        have O7 := Lib.hid o7
        clear o7 g7
        go_wp2
        go_roundw
        case rel => exact Lib.hid ⟨k + 1, by omega, by go_num, O7.out, hx7.out⟩
        case measure => simp [intOf]; omega
      · obtain rfl : k = m := by omega
        have e : L.take k = L := by rw [HM.out, List.take_length]
        rw [e] at ho HO ⊢
        have CO2 := Lib.hid (CO.out av cv wr (ho.mono hz1) (X1.out.trans hx))
        clear ho hx e CO
        generalize hla : L.map (behindL · M) = la at *
        have HLA := Lib.hid hla
        clear hla
        go_wp2_with fail
        refine CO2.out.mono ?_
        rintro e w4 ⟨v, rfl, o1, x1⟩
        go_wp2
        go_ret
        exact ⟨v, rfl, by rw [HLA.out]; exact o1, x1⟩
  | .two s b c, hg, hw, hb, g, w, ht, X, hX => by
    have HX0 : Hid (∀ B, w.heap.size ≤ B → ∀ w' : World, ∀ k, B ≤ k → k < w'.heap.size → ¬ X k) := fun B hB w' k hk _ hx => by have := hX k hx; omega
    obtain ⟨-, c0, h, cc, ga, gb, c1, -, c2, c3, hta, htb⟩ := ht
    replace c2 : w.cell? ⟨h, 0, none⟩ = some (.pointer (some ⟨ga, 0, none⟩)) := c2
    replace c3 : w.cell? ⟨h, 1, none⟩ = some (.pointer (some ⟨gb, 0, none⟩)) := c3
    have zg := lt_of_cell c0
    have zh := lt_of_cell c2
    have HT := Lib.hid hta
    have HU := Lib.hid htb
    have C0 := Lib.hid c0
    have C1 := Lib.hid c1
    have C2 := Lib.hid c2
    have C3 := Lib.hid c3
    have hbt := bnd_two s b c
    have hwl : (Kt.two s b c).words.length = b.words.length + c.words.length + 1 := by simp [Kt.words]; omega
    have ih : Hid (∀ w', Ext w w' → Calls Tryz.prog 70 #[.pointer (some ⟨ga, 0, none⟩), .int .i64 A, .int .i64 act] w' (RetLs (Ek.mk 3 X) 23 w' (partsL A act b))) := fun w' e =>
      parts_c A act hA h16 h18 b hg.2.1 (by omega) (by omega) ga w' (HT.out.ext e) X (fun k hk => Nat.lt_of_lt_of_le (hX k hk) e.size)
    have ih2 : Hid (∀ w', Ext w w' → Calls Tryz.prog 70 #[.pointer (some ⟨gb, 0, none⟩), .int .i64 A, .int .i64 act] w' (RetLs (Ek.mk 3 X) 23 w' (partsL A act c))) := fun w' e =>
      parts_c A act hA h16 h18 c hg.2.2 (by omega) (by omega) gb w' (HU.out.ext e) X (fun k hk => Nat.lt_of_lt_of_le (hX k hk) e.size)
    have hlb : (partsL A act b).length ≤ 4096 := by have := partsL_len A act b; omega
    have hlc : (partsL A act c).length ≤ 4096 := by have := partsL_len A act c; omega
    have hrb : ∀ x, x ∈ partsL A act b → 1 ≤ x.length ∧ x.length ≤ 4096 := fun x hx => by have := partsL_row h16 hx; omega
    have hrc : ∀ x, x ∈ partsL A act c → 1 ≤ x.length ∧ x.length ≤ 4096 := fun x hx => by have := partsL_row h16 hx; omega
    have HLb := Lib.hid hlb
    have HLc := Lib.hid hlc
    have HRb := Lib.hid hrb
    have HRc := Lib.hid hrc
    have hs : s = 19 ∨ s = 20 := hg.1
    have hwb : b.words.length ≤ 4096 := by omega
    have hwc : c.words.length ≤ 4096 := by omega
    have hgb : b.Good := hg.2.1
    clear hbt hwl hw hb hrb hrc hX
    rcases hs with rfl | rfl
    · have HP : Hid (partsL A act (.two 19 b c) = ordL ((partsL A act b).map (behindL · c.words) ++ if b.ends.testBit A then partsL A act c else [])) := partsL_then A act b c
      rw [HP.out]
      generalize hmm : (if b.ends.testBit A then partsL A act c else []) = mm0 at *
      have HMM := Lib.hid hmm
      clear hmm
      have CSB : Hid (∀ w', Ext w w' → Calls Tryz.prog 111 #[.pointer (some ⟨ga, 0, none⟩)] w' (RetI 3 w' b.words)) := fun w' e => steps_c b hwb ga w' (HT.out.ext e)
      have CST : Hid (∀ w', Ext w w' → Calls Tryz.prog 111 #[.pointer (some ⟨gb, 0, none⟩)] w' (RetI 3 w' c.words)) := fun w' e => steps_c c hwc gb w' (HU.out.ext e)
      have CE : Hid (∀ w' a cap, IntsAt w' a b.words → Calls Tryz.prog 75 #[.slice a b.words.length cap] w' fun e w'' => e = .returned (.int .i64 (b.ends : Nat)) ∧ Ext w' w'') := fun w' a cap hi => ends_c a cap b.words b w' hi hgb rfl (KvL.words hgb hwb)
      have CH : Hid (∀ w', Calls Tryz.prog 74 #[.int .i64 (b.ends : Nat), .int .i64 A] w' fun e w'' => e = .returned (.bool (b.ends.testBit A)) ∧ w' = w'') := fun w' => holds_c b.ends A w' (by have := b.ends_lt; omega) (by omega)
      have hWp := c.words_pos
      generalize partsL A act b = L at *
      generalize partsL A act c = R at *
      generalize c.words = M at *
      generalize b.words = N at *
      generalize b.ends = BE at *
      have HW := Lib.hid hwc
      have CO : Hid (∀ mm : List (List Int), (∀ x, x ∈ mm → x ∈ R) → mm.length ≤ 4096 → ∀ a cap w', OwnLs w' w.heap.size (Ek.mk 3 X) 23 (.slice a (L.map (behindL · M) ++ mm).length cap) (L.map (behindL · M) ++ mm) → Ext w w' → Calls Tryz.prog 71 #[.slice a (L.map (behindL · M) ++ mm).length cap] w' (RetLs (Ek.mk 3 X) 23 w (ordL (L.map (behindL · M) ++ mm)))) := fun mm hmr hml a cap w' o x =>
        ordered_ret a cap _ w w' o x (by rw [List.length_append, List.length_map]; omega) (fun x hx => by
          rcases List.mem_append.1 hx with hx | hx
          · obtain ⟨p, hp, rfl⟩ := List.mem_map.1 hx
            have := HRb.out p hp; have := behindL_len p M; omega
          · have := HRc.out x (hmr x hx); omega)
      have hact : inB 19 16 18 = false := rfl
      clear hg HP hta htb hlb hlc hwb hwc hgb HRc
      go_enter Tryz.func70, Tryz.ntmps70
      go_wp2_with fail
      refine (actB_c _ _).mono ?_
      rw [hact]
      rintro e w1 ⟨rfl, rfl⟩
      go_wp2_with fail
      refine (ih.out _ (Ext.refl _)).mono ?_
      rintro e w1 ⟨vL, rfl, oL, x1⟩
      obtain ⟨aL, cL, rfl⟩ := oL.shape
      have OL := Lib.hid oL
      have X1 := Lib.hid x1
      have hz1 := x1.size
      obtain ⟨m, hm⟩ : ∃ m, m = L.length := ⟨_, rfl⟩
      have HM := Lib.hid hm
      have hm4 : m ≤ 4096 := by rw [hm]; exact HLb.out
      rw [← hm]
      have d0 := x1.cell' c0 zg
      have d1 := x1.cell' c1 zg
      have d2 := x1.cell' c2 zh
      have d3 := x1.cell' c3 zh
      have yg := Nat.lt_of_lt_of_le zg hz1
      have yh := Nat.lt_of_lt_of_le zh hz1
      clear hm oL x1 ih
      go_wp2
      clear d0 d1 d2 d3
      go_loopw [7, 69] (fun v i wr => Hid (∃ k : Nat, k ≤ m ∧ i = .int .i64 k ∧ OwnLs wr w1.heap.size (Ek.mk 3 X) 23 v ((L.take k).map (behindL · M)) ∧ Ext w1 wr)) (fun _ i _ => m - (intOf i).toNat)
      case atStart => exact Lib.hid ⟨0, Nat.zero_le _, rfl, OwnLs.nil _ _ _ _, by (repeat (first | exact Ext.refl _ | assumption | refine Ext.alloc ?_ _ | refine Ext.drewN ?_ _ | refine Ext.drew ?_))⟩
      case round =>
        obtain ⟨k, hkm, rfl, ho, hx⟩ := hrel.out
        clear hrel
        have HO := Lib.hid ho
        have HX := Lib.hid hx
        have hz := hx.size
        have x2 := X1.out.trans hx
        have e1 := x2.cell' c1 zg
        have e2 := x2.cell' c2 zh
        have e3 := x2.cell' c3 zh
        clear x2
        obtain ⟨av, cv, rfl⟩ := ho.shape
        by_cases hlt : k < m
        · have hkk : k < L.length := by rw [← HM.out]; exact hlt
          obtain ⟨gL, rfl, -, zL, -, hrows⟩ := OL.out.row (by omega)
          obtain ⟨ai, ci, r1, r2, r3⟩ := hrows k hkk
          have r1' := hx.cell' r1 zL
          have hmem := HRb.out _ (rowI_mem2 hkk)
          have CB : Hid (∀ w' b d, Ext wr w' → IntsAt w' b M → Calls Tryz.prog 129 #[.slice ai (rowI L k).length ci, .slice b M.length d] w' (RetI 3 w' (behindL (rowI L k) M))) := fun w' b d e hi => by
            have := HW.out
            exact behind_c ai b ci d (rowI L k) M w' ((r3.ext (hx.trans e)).1) hi (by omega) (by omega) (by omega) (by omega)
          have HN : Hid ((L.take (k + 1)).map (behindL · M) = (L.take k).map (behindL · M) ++ [behindL (rowI L k) M]) := map_take1 (f := (behindL · M)) hkk
          have hl1 : ((L.take k).map (behindL · M)).length ≤ 4096 := by rw [List.length_map, List.length_take]; have := HLb.out; omega
          have CS2 := Lib.hid (CST.out wr (X1.out.trans hx))
          clear hrows r1 r2 r3 ho hx hmem hkk CST
          generalize (L.take k).map (behindL · M) = la at *
          generalize behindL (rowI L k) M = lb at *
          generalize (rowI L k).length = nr at *
          go_wp2_with fail
          refine CS2.out.mono ?_
          rintro e w2 ⟨v2, rfl, o2, x2⟩
          obtain ⟨a2, c2', rfl, i2⟩ := o2.shape
          have C3' := Lib.hid (CB.out w2 a2 c2' x2 i2)
          have X2 := Lib.hid x2
          have HZ2 : Hid (w.heap.size ≤ w2.heap.size) := Nat.le_trans hz1 (Nat.le_trans hz x2.size)
          clear o2 x2 i2 CB CS2
          go_wp2_with fail
          refine C3'.out.mono ?_
          rintro e w3 ⟨v3, rfl, o3, x3⟩
          obtain ⟨a3, c3', rfl, -⟩ := o3.shape
          have O3 := Lib.hid o3
          have X3 := Lib.hid (X2.out.trans x3)
          have hz3 := X3.out.size
          have hf3 := o3.fit
          clear o3 x3 X2 C3'
          go_wp2_with (at_builtin; refine any_append_ls (by rfl) _ _ _ rfl w1.heap.size (Ek.mk 3 X) 23 neE Tryz.underlying24 infoInts _ la rfl (HO.out.ext (Ext.trans X3.out (by (repeat (first | exact Ext.refl _ | assumption | refine Ext.alloc ?_ _ | refine Ext.drewN ?_ _ | refine Ext.drew ?_))))) _ 1 1 _ [lb] rfl rfl (SrcLs.one (c := c3') (l := lb) (a := a3) (OwnI.intsX (O3.out.ext (by (repeat (first | exact Ext.refl _ | assumption | refine Ext.alloc ?_ _ | refine Ext.drewN ?_ _ | refine Ext.drew ?_)))) (HX0.out _ HZ2.out _)) hf3 (by simp [go_sem])) (by first | omega | (simp; omega)) (by first | omega | (simp; omega)) ?_)
          intro v7 w7 o7 g7
          have hx7 := Lib.hid (OwnLs.grown (HO.out.ext (Ext.trans X3.out (by (repeat (first | exact Ext.refl _ | assumption | refine Ext.alloc ?_ _ | refine Ext.drewN ?_ _ | refine Ext.drew ?_))))) (HX.out.trans (Ext.trans X3.out (by (repeat (first | exact Ext.refl _ | assumption | refine Ext.alloc ?_ _ | refine Ext.drewN ?_ _ | refine Ext.drew ?_))))) g7)
          rw [← HN.out] at o7
          have O7 := Lib.hid o7
          clear o7 g7
          go_wp2
          go_roundw
          case rel => exact Lib.hid ⟨k + 1, by omega, by go_num, O7.out, hx7.out⟩
          case measure => simp [intOf]; omega
        · obtain rfl : k = m := by omega
          have e : L.take k = L := by rw [HM.out, List.take_length]
          rw [e] at ho HO ⊢
          have HX' := Lib.hid (X1.out.trans hx)
          have CS2 := Lib.hid (CSB.out wr HX'.out)
          have hl1 : (L.map (behindL · M)).length ≤ 4096 := by rw [List.length_map]; exact HLb.out
          clear ho hx e CST CSB HX
          have HO2 := Lib.hid (HO.out.mono hz1)
          clear HO OL HRb
          generalize hla : L.map (behindL · M) = la at *
          have HLA := Lib.hid hla
          clear hla
          go_wp2_with fail
          refine CS2.out.mono ?_
          rintro e w2 ⟨v2, rfl, o2, x2⟩
          obtain ⟨a2, c2', rfl, i2⟩ := o2.shape
          have CE2 := Lib.hid (CE.out w2 a2 c2' i2)
          have X2 := Lib.hid x2
          clear o2 x2 i2 CE CS2
          go_wp2_with fail
          refine CE2.out.mono ?_
          rintro e w3 ⟨rfl, x3⟩
          have X3 := Lib.hid (X2.out.trans x3)
          have hz3 := X3.out.size
          have f1 := X3.out.cell' e1 (by have := HX'.out.size; omega)
          have f2 := X3.out.cell' e2 (by have := HX'.out.size; omega)
          have f3 := X3.out.cell' e3 (by have := HX'.out.size; omega)
          clear x3 X2 CE2 e1 e2 e3
          go_wp2_with fail
          refine (CH.out _).mono ?_
          rintro e w4 ⟨rfl, rfl⟩
          have IH2 := Lib.hid (ih2.out w3 (HX'.out.trans X3.out))
          clear CH ih2
          cases hbe : BE.testBit A
          · have HBE := Lib.hid hbe
            clear hbe
            have CO2 := Lib.hid (CO.out [] (fun x h => by cases h) (by simp) av cv w3 (by rw [List.append_nil]; exact HO2.out.ext X3.out) (HX'.out.trans X3.out))
            rw [List.append_nil] at CO2
            clear CO
            go_wp2_with fail
            refine CO2.out.mono ?_
            rintro e w4 ⟨v, rfl, o1, x1⟩
            go_wp2
            go_ret
            exact ⟨v, rfl, by rw [HLA.out, ← HMM.out, HBE.out]; simpa using o1, x1⟩
          · have HBE := Lib.hid hbe
            clear hbe
            have CO2 : Hid (∀ a cap w', OwnLs w' w.heap.size (Ek.mk 3 X) 23 (.slice a (la.length + R.length) cap) (la ++ R) → Ext w w' → Calls Tryz.prog 71 #[.slice a (la.length + R.length) cap] w' (RetLs (Ek.mk 3 X) 23 w (ordL (la ++ R)))) := fun a cap w' o x => by
              have := CO.out R (fun x h => h) HLc.out a cap w'
              rw [List.length_append] at this
              exact this o x
            have hlr := HLc.out
            clear CO
            go_wp2_with fail
            refine IH2.out.mono ?_
            rintro e w5 ⟨vR, rfl, oR, x5⟩
            obtain ⟨aR, cR, rfl⟩ := oR.shape
            obtain ⟨vs, hsrc⟩ := oR.src
            have HS := Lib.hid hsrc
            have X5 := Lib.hid (X3.out.trans x5)
            have O5 := Lib.hid (HO2.out.ext X5.out)
            have X6 := Lib.hid (HX'.out.trans X5.out)
            have hz6 := X6.out.size
            clear oR hsrc x5 IH2 X3 HO2
            go_wp2_with (at_builtin; refine any_append_ls (by rfl) _ _ _ rfl w.heap.size (Ek.mk 3 X) 23 neE Tryz.underlying24 infoInts _ la rfl (O5.out.ext (by (repeat (first | exact Ext.refl _ | assumption | refine Ext.alloc ?_ _ | refine Ext.drewN ?_ _ | refine Ext.drew ?_)))) _ _ _ vs R rfl rfl (HS.out.ext (by (repeat (first | exact Ext.refl _ | assumption | refine Ext.alloc ?_ _ | refine Ext.drewN ?_ _ | refine Ext.drew ?_)))) (by first | omega | (simp; omega)) (by first | omega | (simp; omega)) ?_)
            intro v7 w7 o7 g7
            have Y7 := Lib.hid (OwnLs.grown (O5.out.ext (by (repeat (first | exact Ext.refl _ | assumption | refine Ext.alloc ?_ _ | refine Ext.drewN ?_ _ | refine Ext.drew ?_)))) (X6.out.trans (by (repeat (first | exact Ext.refl _ | assumption | refine Ext.alloc ?_ _ | refine Ext.drewN ?_ _ | refine Ext.drew ?_)))) g7)
            obtain ⟨a7, c7, rfl⟩ := o7.shape
            rw [List.length_append] at o7
            try rw [List.length_append]
            have O7 := Lib.hid o7
            clear o7 g7
            go_wp2_with fail
            refine (CO2.out _ _ _ O7.out Y7.out).mono ?_
            rintro e w4 ⟨v, rfl, o1, x1⟩
            go_wp2
            go_ret
            exact ⟨v, rfl, by rw [HLA.out, ← HMM.out, HBE.out]; simpa using o1, x1⟩
    · have HP : Hid (partsL A act (.two 20 b c) = ordL (partsL A act b ++ partsL A act c)) := partsL_plus A act b c
      rw [HP.out]
      generalize partsL A act b = L at *
      generalize partsL A act c = R at *
      have CO : Hid (∀ a cap w', OwnLs w' w.heap.size (Ek.mk 3 X) 23 (.slice a (L.length + R.length) cap) (L ++ R) → Ext w w' → Calls Tryz.prog 71 #[.slice a (L.length + R.length) cap] w' (RetLs (Ek.mk 3 X) 23 w (ordL (L ++ R)))) := fun a cap w' o x => by
        rw [← List.length_append] at o ⊢
        exact ordered_ret a cap _ w w' o x (by rw [List.length_append]; omega) (fun x hx => by
          rcases List.mem_append.1 hx with hx | hx
          · have := HRb.out x hx; omega
          · have := HRc.out x hx; omega)
      have hact : inB 20 16 18 = false := rfl
      clear hg HP hta htb HRb HRc
      go_enter Tryz.func70, Tryz.ntmps70
      go_wp2_with fail
      refine (actB_c _ _).mono ?_
      rw [hact]
      rintro e w1 ⟨rfl, rfl⟩
      go_wp2
      go_region_held3 (fun w' => w'.cell? ⟨g, 1, none⟩ = some (.slice (some ⟨h, 0, none⟩) 2 cc) ∧ w'.cell? ⟨h, 0, none⟩ = some (.pointer (some ⟨ga, 0, none⟩)) ∧ w'.cell? ⟨h, 1, none⟩ = some (.pointer (some ⟨gb, 0, none⟩)))
        (first
          | go_keep
          | (have E := Ext.trans (show Ext w _ by (repeat (first | exact Ext.refl _ | assumption | refine Ext.alloc ?_ _ | refine Ext.drewN ?_ _ | refine Ext.drew ?_))) yk; exact ⟨E.cell' C1.out zg, E.cell' C2.out zh, E.cell' C3.out zh⟩)
          | (have E := Ext.trans (Ext.trans (show Ext w _ by (repeat (first | exact Ext.refl _ | assumption | refine Ext.alloc ?_ _ | refine Ext.drewN ?_ _ | refine Ext.drew ?_))) yk) (Ext.trans (by (repeat (first | exact Ext.refl _ | assumption | refine Ext.alloc ?_ _ | refine Ext.drewN ?_ _ | refine Ext.drew ?_))) yl); exact ⟨E.cell' C1.out zg, E.cell' C2.out zh, E.cell' C3.out zh⟩)
          | exact ⟨y7.cell' C1.out zg, y7.cell' C2.out zh, y7.cell' C3.out zh⟩)
        ((first
          | (go_at_call 70; have _t := yk; refine (ih2.out _ (Ext.trans (Ext.trans (show Ext w _ by (repeat (first | exact Ext.refl _ | assumption | refine Ext.alloc ?_ _ | refine Ext.drewN ?_ _ | refine Ext.drew ?_))) yk) (by (repeat (first | exact Ext.refl _ | assumption | refine Ext.alloc ?_ _ | refine Ext.drewN ?_ _ | refine Ext.drew ?_))))).mono ?_; rintro e wl ⟨vl, rfl, ol, yl⟩; obtain ⟨al, cl, rfl⟩ := ol.shape; obtain ⟨vs, hsrc⟩ := ol.src; have okl := okm.ext (Ext.trans (by (repeat (first | exact Ext.refl _ | assumption | refine Ext.alloc ?_ _ | refine Ext.drewN ?_ _ | refine Ext.drew ?_))) yl))
          | (go_at_call 70; refine (ih.out _ (by (repeat (first | exact Ext.refl _ | assumption | refine Ext.alloc ?_ _ | refine Ext.drewN ?_ _ | refine Ext.drew ?_)))).mono ?_; rintro e wk ⟨vk, rfl, ok, yk⟩; obtain ⟨ak, ck, rfl⟩ := ok.shape; have okm := OwnLs.mono (B' := w.heap.size) ok (by simp); have hzk := yk.size)
          | (refine astep_append_ls rfl _ _ _ rfl w.heap.size (Ek.mk 3 X) 23 neE Tryz.underlying24 infoInts _ L rfl (okl.ext (by (repeat (first | exact Ext.refl _ | assumption | refine Ext.alloc ?_ _ | refine Ext.drewN ?_ _ | refine Ext.drew ?_)))) _ _ _ vs R rfl rfl (hsrc.ext (by (repeat (first | exact Ext.refl _ | assumption | refine Ext.alloc ?_ _ | refine Ext.drewN ?_ _ | refine Ext.drew ?_)))) (by omega) (by have := yl.size; simp at this hzk ⊢; omega) ?_; intro v7 w7 o7 g7; have y7 := OwnLs.grown (w0 := w) (okl.ext (by (repeat (first | exact Ext.refl _ | assumption | refine Ext.alloc ?_ _ | refine Ext.drewN ?_ _ | refine Ext.drew ?_)))) (Ext.trans (Ext.trans (Ext.trans (show Ext w _ by (repeat (first | exact Ext.refl _ | assumption | refine Ext.alloc ?_ _ | refine Ext.drewN ?_ _ | refine Ext.drew ?_))) yk) (Ext.trans (by (repeat (first | exact Ext.refl _ | assumption | refine Ext.alloc ?_ _ | refine Ext.drewN ?_ _ | refine Ext.drew ?_))) yl)) (by (repeat (first | exact Ext.refl _ | assumption | refine Ext.alloc ?_ _ | refine Ext.drewN ?_ _ | refine Ext.drew ?_)))) g7)))
      all_goals
        have Y7 := Lib.hid y7
        obtain ⟨a7, c7, rfl⟩ := o7.shape
        rw [List.length_append] at o7
        try rw [List.length_append]
        have O7 := Lib.hid o7
        clear o7 g7 y7 okl okm ok ol yk yl hsrc
        go_wp2_with fail
        refine (CO.out _ _ _ O7.out Y7.out).mono ?_
        rintro e w4 ⟨v, rfl, o1, x1⟩
        go_wp2
        go_ret
        exact ⟨v, rfl, o1, x1⟩
end Go.Proofs.YtlaamecfknkmlaaGreat
