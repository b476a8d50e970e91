/- Merged texts: contracts and plain lemmas (Si1, Si2, Si3, Si). -/
import Derived.Test.YtlaamecfknkmlaaGreatGt8
namespace Go.Proofs.YtlaamecfknkmlaaGreat
set_option linter.unusedVariables false
open Go.RowKit Go.Kt
set_option maxRecDepth 100000 in
set_option maxHeartbeats 4000000 in
theorem l4Parts_star (A : Nat) (act : Int) (hA : A < 4) (hact : 16 ≤ act ∧ act ≤ 18) (c : Kt) (hg : c.Good) (b off cb : Nat) (w : World) (hl : IntsE w (ek 3) (some ⟨b, off, none⟩) (Kt.star c).words) (hcb : (Kt.star c).words.length ≤ cb) (h40 : (Kt.star c).words.length ≤ 4096) (hbd : (Kt.star c).bnd ≤ 4096) (ih0 : ∀ w', Ext w w' → Calls Tryz.prog 120 #[.slice (some ⟨b, off, none⟩) c.words.length cb, .int .i64 A, .int .i64 act] w' (RetLs (ek 3) 23 w' (partsL A act c))) :
    Calls Tryz.prog 120 #[.slice (some ⟨b, off, none⟩) (Kt.star c).words.length cb, .int .i64 A, .int .i64 act] w (RetLs (ek 3) 23 w (partsL A act (.star c))) := by
  obtain ⟨hc, zb⟩ := IntsAt.at_ (xs := c.words) (ys := []) hl.1
  have hla : Hid (IntsE w (ek 3) (some ⟨b, off, none⟩) c.words) := ⟨IntsAt.left (xs := c.words) hl.1, fun b' o' h0 ha => hl.2 b' o' (by simp [Kt.words]) ha⟩
  have HL := Lib.hid hl
  have hlen : (Kt.star c).words.length = c.words.length + 1 := by simp [Kt.words]
  have hbt : c.bnd ≤ 4096 := by have := bnd_star c; omega
  rw [hlen] at hcb h40 ⊢
  obtain ⟨q, hq⟩ : ∃ q, q = c.words.length := ⟨_, rfl⟩
  have ih : Hid (∀ w', Ext w w' → Calls Tryz.prog 120 #[.slice (some ⟨b, off, none⟩) q cb, .int .i64 A, .int .i64 act] w' (RetLs (ek 3) 23 w' (partsL A act c))) := fun w' hx => by
    rw [hq]; exact ih0 w' hx
  have hlb : (partsL A act c).length ≤ 4096 := by have := partsL_len A act c; omega
  have hrb : ∀ x, x ∈ partsL A act c → 1 ≤ x.length ∧ x.length ≤ 4096 := fun x hx => by have := partsL_row hact.1 hx; omega
  have HRb := Lib.hid hrb
  have HP : Hid (partsL A act (.star c) = ordL ((partsL A act c).map (behindL · (Kt.star c).words))) := partsL_star A act c
  rw [HP.out]
  obtain ⟨M, hM⟩ : ∃ M, M = (Kt.star c).words := ⟨_, rfl⟩
  have hMl : M.length = q + 1 := by rw [hM, hlen, hq]
  rw [← hM] at HL ⊢
  rw [← hq] at hc hcb h40 ⊢
  obtain ⟨L, hL⟩ : ∃ L, L = partsL A act c := ⟨_, rfl⟩
  rw [← hL] at ih hlb HRb ⊢
  have CBn : Hid (∀ w' ai ci k, k < L.length → Ext w w' → IntsAt w' ai (rowI L k) → Calls Tryz.prog 159 #[.slice ai (rowI L k).length ci, .slice (some ⟨b, off, none⟩) (q + 1) cb] w' (RetI 3 w' (behindL (rowI L k) M))) := fun w' ai ci k hk e hi => by
    have h1 := HRb.out _ (rowI_mem2 hk)
    rw [← hMl]
    exact l4Behind_c ai (some ⟨b, off, none⟩) ci cb (rowI L k) M w' hi (HL.out.ext e).1 (by omega) (by omega)
  have hxs : ∀ x, x ∈ L.map (behindL · M) → x.length ≤ 10000 := fun x hx => by
    obtain ⟨p, hp, rfl⟩ := List.mem_map.1 hx
    have h1 := HRb.out p hp
    have h2 := behindL_len p M
    omega
  have CAn : Hid (∀ av cv b3 c3 k w', k < L.length → OwnLs w' w.heap.size (ek 3) 23 (.slice av (addTo [] (L.map (behindL · M)) k).length cv) (addTo [] (L.map (behindL · M)) k) → IntsE w' (ek 3) b3 (rowI (L.map (behindL · M)) k) → (rowI (L.map (behindL · M)) k).length ≤ c3 → w.heap.size ≤ w'.heap.size → Calls Tryz.prog 158 #[.slice av (addTo [] (L.map (behindL · M)) k).length cv, .slice b3 (rowI (L.map (behindL · M)) k).length c3] w' (RetAdd w' w.heap.size (addTo [] (L.map (behindL · M)) (k + 1)))) := fun av cv b3 c3 k w' hk ho hi hf hz =>
    add_step (fun x hx => by cases hx) hxs (by simp) (by rw [List.length_map]; omega) w.heap.size av b3 cv c3 k w' (by rw [List.length_map]; exact hk) ho hi hf hz
  have HF : Hid (addTo [] (L.map (behindL · M)) L.length = ordL (L.map (behindL · M))) := by
    have h := addTo_ord (L := []) List.Pairwise.nil (L.map (behindL · M))
    rw [List.length_map] at h
    exact h
  have hw1 : IntKind.i64.wrap ((q : Int) + 1 - 1) = (q : Int) := by rw [IntWalk.i64_in _ (by omega)]; omega
  have hqc : (q : Int) ≤ cb := by omega
  have HLl := Lib.hid hlb
  generalize hRF : ordL (L.map (behindL · M)) = RF at *
  have HRF : Hid (addTo [] (L.map (behindL · M)) L.length = RF) := HF.out
  clear hRF ih0
  clear hl hla hlen hbt hM hMl hL hq hlb hrb HP hxs HL HF hg
  go_enter Tryz.func120, Tryz.ntmps120
  go_wp2_with fail
  refine (ih.out _ (by (repeat (first | exact Ext.refl _ | assumption | refine Ext.alloc ?_ _ | refine Ext.drewN ?_ _ | refine Ext.drew ?_)))).mono ?_
  rintro e w1 ⟨vL, rfl, oL, x1⟩
  obtain ⟨aL, cL, rfl⟩ := oL.shape
  have OL := Lib.hid oL
  have X1 := Lib.hid (Ext.trans (show Ext w _ by (repeat (first | exact Ext.refl _ | assumption | refine Ext.alloc ?_ _ | refine Ext.drewN ?_ _ | refine Ext.drew ?_))) x1)
  have E1 := Lib.hid ((OwnLs.empty w (ek 3) 23).ext x1)
  have hz1 := X1.out.size
  obtain ⟨m, hm⟩ : ∃ m, m = L.length := ⟨_, rfl⟩
  have HM := Lib.hid hm
  have hm4 : m ≤ 4096 := by rw [hm]; exact HLl.out
  rw [← hm]
  clear hm oL x1 ih
  go_wp2
  go_loopw [9, 21] (fun v i wr => Hid (∃ k : Nat, k ≤ m ∧ i = .int .i64 k ∧ OwnLs wr w.heap.size (ek 3) 23 v (addTo [] (L.map (behindL · M)) k) ∧ Ext w1 wr)) (fun _ i _ => m - (intOf i).toNat)
  case atStart => exact Lib.hid ⟨0, Nat.zero_le _, rfl, E1.out.ext (by (repeat (first | exact Ext.refl _ | assumption | refine Ext.alloc ?_ _ | refine Ext.drewN ?_ _ | refine Ext.drew ?_))), by (repeat (first | exact Ext.refl _ | assumption | refine Ext.alloc ?_ _ | refine Ext.drewN ?_ _ | refine Ext.drew ?_))⟩
  case round =>
    obtain ⟨k, hkm, rfl, ho, hx⟩ := hrel.out
    clear hrel
    have HO := Lib.hid ho
    have HX := Lib.hid hx
    have hz := hx.size
    obtain ⟨av, cv, rfl⟩ := ho.shape
    by_cases hlt : k < m
    · have hkk : k < L.length := by rw [← HM.out]; exact hlt
      obtain ⟨gL, rfl, -, zL, -, hrows⟩ := OL.out.row (by omega)
      obtain ⟨ai, ci, r1, r2, r3⟩ := hrows k hkk
      have r1' := hx.cell' r1 zL
      have CB : Hid (∀ w', Ext wr w' → Calls Tryz.prog 159 #[.slice ai (rowI L k).length ci, .slice (some ⟨b, off, none⟩) (q + 1) cb] w' (RetI 3 w' (behindL (rowI L k) M))) := fun w' e => CBn.out w' ai ci k hkk (X1.out.trans (hx.trans e)) ((r3.ext (hx.trans e)).1)
      have CA : Hid (∀ w' b3 c3, Ext wr w' → OwnLs w' w.heap.size (ek 3) 23 (.slice av (addTo [] (L.map (behindL · M)) k).length cv) (addTo [] (L.map (behindL · M)) k) → IntsE w' (ek 3) b3 (behindL (rowI L k) M) → (behindL (rowI L k) M).length ≤ c3 → Calls Tryz.prog 158 #[.slice av (addTo [] (L.map (behindL · M)) k).length cv, .slice b3 (behindL (rowI L k) M).length c3] w' (RetAdd w' w.heap.size (addTo [] (L.map (behindL · M)) (k + 1)))) := fun w' b3 c3 e ho hi hf => by
        have := CAn.out av cv b3 c3 k w' hkk ho
        rw [rowI_map (f := (behindL · M)) hkk] at this
        exact this hi hf (by have := X1.out.size; have := e.size; omega)
      clear hrows r1 r2 r3 ho hx hkk
      generalize hR1 : addTo [] (L.map (behindL · M)) (k + 1) = R1 at *
      have HR1 := Lib.hid hR1
      clear hR1
      generalize addTo [] (L.map (behindL · M)) k = R0 at *
      generalize behindL (rowI L k) M = lb at *
      generalize (rowI L k).length = nr at *
      go_wp2_with fail
      refine (CB.out _ (by (repeat (first | exact Ext.refl _ | assumption | refine Ext.alloc ?_ _ | refine Ext.drewN ?_ _ | refine Ext.drew ?_)))).mono ?_
      rintro e w2 ⟨v2, rfl, o2, x2⟩
      obtain ⟨a2, c2', rfl, -⟩ := o2.shape
      have I2 := Lib.hid o2.intsE
      have hf2 := o2.fit
      have X2 := Lib.hid (Ext.trans (show Ext wr _ by (repeat (first | exact Ext.refl _ | assumption | refine Ext.alloc ?_ _ | refine Ext.drewN ?_ _ | refine Ext.drew ?_))) x2)
      clear o2 x2 CB
      go_wp2_with fail
      refine (CA.out _ a2 c2' X2.out (HO.out.ext X2.out) I2.out hf2).mono ?_
      rintro e w3 ⟨v3, rfl, o3, x3⟩
      have O3 := Lib.hid o3
      have X3 := Lib.hid (HX.out.trans (X2.out.trans x3))
      clear o3 x3 CA
      go_wp2
      go_roundw
      case rel => exact Lib.hid ⟨k + 1, by omega, by go_num, by rw [HR1.out]; exact O3.out, X3.out⟩
      case measure => simp [intOf]; omega
    · obtain rfl : k = m := by omega
      have HO' : Hid (OwnLs wr w.heap.size (ek 3) 23 (.slice av (addTo [] (L.map (behindL · M)) k).length cv) RF) := by rw [← HRF.out, ← HM.out]; exact HO.out
      clear CBn CAn HRb HO ho
      generalize addTo [] (L.map (behindL · M)) k = R0 at *
      go_wp2
      go_ret
      exact ⟨_, rfl, HO'.out.ext (by (repeat (first | exact Ext.refl _ | assumption | refine Ext.alloc ?_ _ | refine Ext.drewN ?_ _ | refine Ext.drew ?_))), X1.out.trans (HX.out.trans (by (repeat (first | exact Ext.refl _ | assumption | refine Ext.alloc ?_ _ | refine Ext.drewN ?_ _ | refine Ext.drew ?_))))⟩
end Go.Proofs.YtlaamecfknkmlaaGreat
namespace Go.Proofs.YtlaamecfknkmlaaGreat
set_option linter.unusedVariables false
open Go.RowKit Go.Kt
set_option maxRecDepth 100000 in
set_option maxHeartbeats 4000000 in
theorem l4Parts_19 (A : Nat) (act : Int) (hA : A < 4) (hact : 16 ≤ act ∧ act ≤ 18) (c d : Kt) (hg : (Kt.two 19 c d).Good) (b off cb : Nat) (w : World) (hl : IntsE w (ek 3) (some ⟨b, off, none⟩) (Kt.two 19 c d).words) (hcb : (Kt.two 19 c d).words.length ≤ cb) (h40 : (Kt.two 19 c d).words.length ≤ 4096) (hbd : (Kt.two 19 c d).bnd ≤ 4096) (ih0 : ∀ w', Ext w w' → Calls Tryz.prog 120 #[.slice (some ⟨b, off, none⟩) c.words.length cb, .int .i64 A, .int .i64 act] w' (RetLs (ek 3) 23 w' (partsL A act c))) (ih20 : ∀ w', Ext w w' → Calls Tryz.prog 120 #[.slice (some ⟨b, off + c.words.length, none⟩) d.words.length (cb - c.words.length), .int .i64 A, .int .i64 act] w' (RetLs (ek 3) 23 w' (partsL A act d))) :
    Calls Tryz.prog 120 #[.slice (some ⟨b, off, none⟩) (Kt.two 19 c d).words.length cb, .int .i64 A, .int .i64 act] w (RetLs (ek 3) 23 w (partsL A act (.two 19 c d))) := by
  obtain ⟨hc, zb⟩ := IntsAt.at_ (xs := c.words ++ d.words) (ys := []) hl.1
  have hlx : ∀ {xs : List Int} {o : Nat}, IntsAt w (some ⟨b, o, none⟩) xs → IntsE w (ek 3) (some ⟨b, o, none⟩) xs := fun h => ⟨h, fun b' o' h0 ha => by
    have e := Option.some.inj ha
    have e2 : b = b' := congrArg Addr.block e
    subst e2
    exact hl.2 b off (Kt.two 19 c d).words_pos rfl⟩
  have hla : Hid (IntsE w (ek 3) (some ⟨b, off, none⟩) c.words) := hlx (IntsAt.left (xs := c.words) (IntsAt.left (xs := c.words ++ d.words) hl.1))
  have hlc : Hid (IntsE w (ek 3) (some ⟨b, off + c.words.length, none⟩) d.words) := hlx (IntsAt.right (xs := c.words) (IntsAt.left (xs := c.words ++ d.words) hl.1))
  have hlen : (Kt.two 19 c d).words.length = c.words.length + d.words.length + 1 := by simp [Kt.words]; omega
  have hH : Hid (∀ w', Ext w w' → Calls Tryz.prog 143 #[.slice (some ⟨b, off, none⟩) (c.words.length + d.words.length + 1) cb] w' fun e w'' => e = .returned (.tuple #[.slice (some ⟨b, off, none⟩) c.words.length cb, .slice (some ⟨b, off + c.words.length, none⟩) d.words.length (cb - c.words.length)]) ∧ w'' = w'.drew) := fun w' hx =>
    two_halves b off cb 19 c d hg.2.2 w' (hl.1.ext hx) hcb (by omega)
  have hbt := bnd_two 19 c d
  rw [hlen] at hcb h40 ⊢
  rw [List.length_append] at hc
  obtain ⟨q, hq⟩ : ∃ q, q = c.words.length := ⟨_, rfl⟩
  obtain ⟨r, hr'⟩ : ∃ r, r = d.words.length := ⟨_, rfl⟩
  have ih : Hid (∀ w', Ext w w' → Calls Tryz.prog 120 #[.slice (some ⟨b, off, none⟩) q cb, .int .i64 A, .int .i64 act] w' (RetLs (ek 3) 23 w' (partsL A act c))) := fun w' hx => by
    rw [hq]; exact ih0 w' hx
  have ih2 : Hid (∀ w', Ext w w' → Calls Tryz.prog 120 #[.slice (some ⟨b, off + q, none⟩) r (cb - q), .int .i64 A, .int .i64 act] w' (RetLs (ek 3) 23 w' (partsL A act d))) := fun w' hx => by
    rw [hq, hr']; exact ih20 w' hx
  have CE : Hid (∀ w', Ext w w' → Calls Tryz.prog 119 #[.slice (some ⟨b, off, none⟩) q cb] w' fun e w'' => e = .returned (.int .i64 (c.ends : Nat)) ∧ Ext w' w'') := fun w' hx => by
    rw [hq]; exact l4Ends_c c hg.2.1 b off cb w' (hla.out.ext hx).1 (by omega) (by omega)
  have CBt : Hid (∀ w', Calls Tryz.prog 107 #[.int .i64 (c.ends : Nat), .int .i64 A] w' fun e w'' => e = .returned (.int .i64 ((c.ends.testBit A).toNat : Nat)) ∧ w' = w'') := fun w' => l1Bit_c c.ends A w' (by have := c.ends_lt; omega) (by omega)
  have hP19 : Hid (partsL A act (.two 19 c d) = ordL ((partsL A act c).map (behindL · d.words) ++ if c.ends.testBit A then partsL A act d else [])) := partsL_then A act c d
  have hP20 : Hid (partsL A act (.two 20 c d) = ordL (partsL A act c ++ partsL A act d)) := partsL_plus A act c d
  have hlb : (partsL A act c).length ≤ 4096 := by have := partsL_len A act c; omega
  have hld : (partsL A act d).length ≤ 4096 := by have := partsL_len A act d; omega
  have hrb : ∀ x, x ∈ partsL A act c → 1 ≤ x.length ∧ x.length ≤ 4096 := fun x hx => by have := partsL_row hact.1 hx; omega
  have hrd : ∀ x, x ∈ partsL A act d → 1 ≤ x.length ∧ x.length ≤ 4096 := fun x hx => by have := partsL_row hact.1 hx; omega
  have HRb := Lib.hid hrb
  have HRd := Lib.hid hrd
  have HAsc := Lib.hid (asc_partsL A act c)
  rw [← hq, ← hr'] at hc hcb h40 hH ⊢
  rw [← hq] at hlc
  have hr4 : d.words.length ≤ 4096 := by omega
  obtain ⟨M, hM⟩ : ∃ M, M = d.words := ⟨_, rfl⟩
  rw [← hM] at hlc hr4 hr' hP19
  obtain ⟨L, hL⟩ : ∃ L, L = partsL A act c := ⟨_, rfl⟩
  obtain ⟨R, hR⟩ : ∃ R, R = partsL A act d := ⟨_, rfl⟩
  rw [← hL] at ih hlb HRb HAsc
  rw [← hR] at ih2 hld HRd
  have hw1 : IntKind.i64.wrap ((q : Int) + r + 1 - 1) = ((q + r : Nat) : Int) := by rw [IntWalk.i64_in _ (by omega)]; omega
  have hw2 : IntKind.i64.wrap ((q : Int) + r + 1 - 1) = (q : Int) + r := by rw [IntWalk.i64_in _ (by omega)]; omega
  have HLl := Lib.hid hlb
  have HRl := Lib.hid hld
  rw [hP19.out, ← hL, ← hR]
  have CBn : Hid (∀ w' ai ci k, k < L.length → Ext w w' → IntsAt w' ai (rowI L k) → Calls Tryz.prog 159 #[.slice ai (rowI L k).length ci, .slice (some ⟨b, off + q, none⟩) r (cb - q)] w' (RetI 3 w' (behindL (rowI L k) M))) := fun w' ai ci k hk e hi => by
    have h1 := HRb.out _ (rowI_mem2 hk)
    rw [hr']
    exact l4Behind_c ai (some ⟨b, off + q, none⟩) ci (cb - q) (rowI L k) M w' hi (hlc.out.ext e).1 (by omega) (by omega)
  have hxs : ∀ x, x ∈ L.map (behindL · M) → x.length ≤ 10000 := fun x hx => by
    obtain ⟨p, hp, rfl⟩ := List.mem_map.1 hx
    have h1 := HRb.out p hp
    have h2 := behindL_len p M
    omega
  have CAn : Hid (∀ av cv b3 c3 k w', k < L.length → OwnLs w' w.heap.size (ek 3) 23 (.slice av (addTo [] (L.map (behindL · M)) k).length cv) (addTo [] (L.map (behindL · M)) k) → IntsE w' (ek 3) b3 (rowI (L.map (behindL · M)) k) → (rowI (L.map (behindL · M)) k).length ≤ c3 → w.heap.size ≤ w'.heap.size → Calls Tryz.prog 158 #[.slice av (addTo [] (L.map (behindL · M)) k).length cv, .slice b3 (rowI (L.map (behindL · M)) k).length c3] w' (RetAdd w' w.heap.size (addTo [] (L.map (behindL · M)) (k + 1)))) := fun av cv b3 c3 k w' hk ho hi hf hz =>
    add_step (fun x hx => by cases hx) hxs (by simp) (by rw [List.length_map]; omega) w.heap.size av b3 cv c3 k w' (by rw [List.length_map]; exact hk) ho hi hf hz
  have HF : Hid (addTo [] (L.map (behindL · M)) L.length = ordL (L.map (behindL · M))) := by
    have h := addTo_ord (L := []) List.Pairwise.nil (L.map (behindL · M))
    rw [List.length_map] at h
    exact h
  have hl0 : (ordL (L.map (behindL · M))).length ≤ 10000 := by have := length_ordL (L.map (behindL · M)); rw [List.length_map] at this; omega
  have CAm : Hid (∀ av cv b3 c3 k w', k < R.length → OwnLs w' w.heap.size (ek 3) 23 (.slice av (addTo (ordL (L.map (behindL · M))) R k).length cv) (addTo (ordL (L.map (behindL · M))) R k) → IntsE w' (ek 3) b3 (rowI R k) → (rowI R k).length ≤ c3 → w.heap.size ≤ w'.heap.size → Calls Tryz.prog 158 #[.slice av (addTo (ordL (L.map (behindL · M))) R k).length cv, .slice b3 (rowI R k).length c3] w' (RetAdd w' w.heap.size (addTo (ordL (L.map (behindL · M))) R (k + 1)))) := fun av cv b3 c3 k w' hk ho hi hf hz =>
    add_step (fun x hx => hxs x ((mem_ordL x _).1 hx)) (fun x hx => by have := HRd.out x hx; omega) hl0 (by omega) w.heap.size av b3 cv c3 k w' hk ho hi hf hz
  have HF2 : Hid (addTo (ordL (L.map (behindL · M))) R R.length = ordL (L.map (behindL · M) ++ R)) := by
    have h := addTo_ord (asc_ordL (L.map (behindL · M))) R
    rw [h]
    exact ordL_congr fun x => by rw [List.mem_append, List.mem_append, mem_ordL]
  generalize hRF : ordL (L.map (behindL · M) ++ if c.ends.testBit A = true then R else []) = RF at *
  have HRF := Lib.hid hRF
  clear hRF ih0 ih20
  clear hl hla hlen hbt hM hL hR hq hr' hlb hld hrb hrd hP19 hP20 hxs hl0 HAsc hg hlx hlc HRd
  generalize c.ends = ce at *
  go_enter Tryz.func120, Tryz.ntmps120
  go_wp2_with fail
  refine (hH.out _ (by (repeat (first | exact Ext.refl _ | assumption | refine Ext.alloc ?_ _ | refine Ext.drewN ?_ _ | refine Ext.drew ?_)))).mono ?_
  rintro e w1 ⟨rfl, rfl⟩
  go_wp2_with fail
  refine (ih.out _ (by (repeat (first | exact Ext.refl _ | assumption | refine Ext.alloc ?_ _ | refine Ext.drewN ?_ _ | refine Ext.drew ?_)))).mono ?_
  rintro e w1 ⟨vL, rfl, oL, x1⟩
  obtain ⟨aL, cL, rfl⟩ := oL.shape
  have OL := Lib.hid oL
  have X1 := Lib.hid (Ext.trans (show Ext w _ by (repeat (first | exact Ext.refl _ | assumption | refine Ext.alloc ?_ _ | refine Ext.drewN ?_ _ | refine Ext.drew ?_))) x1)
  have E1 := Lib.hid ((OwnLs.empty w (ek 3) 23).ext (Ext.trans (by (repeat (first | exact Ext.refl _ | assumption | refine Ext.alloc ?_ _ | refine Ext.drewN ?_ _ | refine Ext.drew ?_))) x1))
  have hz1 := X1.out.size
  obtain ⟨m, hm⟩ : ∃ m, m = L.length := ⟨_, rfl⟩
  have HM := Lib.hid hm
  have hm4 : m ≤ 4096 := by rw [hm]; exact HLl.out
  rw [← hm]
  clear hm oL x1 ih
  go_wp2
  go_loopw [9, 17] (fun v i wr => Hid (∃ k : Nat, k ≤ m ∧ i = .int .i64 k ∧ OwnLs wr w.heap.size (ek 3) 23 v (addTo [] (L.map (behindL · M)) k) ∧ Ext w1 wr)) (fun _ i _ => m - (intOf i).toNat)
  case atStart => exact Lib.hid ⟨0, Nat.zero_le _, rfl, E1.out.ext (by (repeat (first | exact Ext.refl _ | assumption | refine Ext.alloc ?_ _ | refine Ext.drewN ?_ _ | refine Ext.drew ?_))), by (repeat (first | exact Ext.refl _ | assumption | refine Ext.alloc ?_ _ | refine Ext.drewN ?_ _ | refine Ext.drew ?_))⟩
  case round =>
    obtain ⟨k, hkm, rfl, ho, hx⟩ := hrel.out
    clear hrel
    have HO := Lib.hid ho
    have HX := Lib.hid hx
    have hz := hx.size
    obtain ⟨av, cv, rfl⟩ := ho.shape
    by_cases hlt : k < m
    · have hkk : k < L.length := by rw [← HM.out]; exact hlt
      obtain ⟨gL, rfl, -, zL, -, hrows⟩ := OL.out.row (by omega)
      obtain ⟨ai, ci, r1, r2, r3⟩ := hrows k hkk
      have r1' := hx.cell' r1 zL
      have CB : Hid (∀ w', Ext wr w' → Calls Tryz.prog 159 #[.slice ai (rowI L k).length ci, .slice (some ⟨b, off + q, none⟩) r (cb - q)] w' (RetI 3 w' (behindL (rowI L k) M))) := fun w' e => CBn.out w' ai ci k hkk (X1.out.trans (hx.trans e)) ((r3.ext (hx.trans e)).1)
      have CA : Hid (∀ w' b3 c3, Ext wr w' → OwnLs w' w.heap.size (ek 3) 23 (.slice av (addTo [] (L.map (behindL · M)) k).length cv) (addTo [] (L.map (behindL · M)) k) → IntsE w' (ek 3) b3 (behindL (rowI L k) M) → (behindL (rowI L k) M).length ≤ c3 → Calls Tryz.prog 158 #[.slice av (addTo [] (L.map (behindL · M)) k).length cv, .slice b3 (behindL (rowI L k) M).length c3] w' (RetAdd w' w.heap.size (addTo [] (L.map (behindL · M)) (k + 1)))) := fun w' b3 c3 e ho hi hf => by
        have := CAn.out av cv b3 c3 k w' hkk ho
        rw [rowI_map (f := (behindL · M)) hkk] at this
        exact this hi hf (by have := X1.out.size; have := e.size; omega)
      clear hrows r1 r2 r3 ho hx hkk
      generalize hR1 : addTo [] (L.map (behindL · M)) (k + 1) = R1 at *
      have HR1 := Lib.hid hR1
      clear hR1
      generalize addTo [] (L.map (behindL · M)) k = R0 at *
      generalize behindL (rowI L k) M = lb at *
      generalize (rowI L k).length = nr at *
      go_wp2_with fail
      refine (CB.out _ (by (repeat (first | exact Ext.refl _ | assumption | refine Ext.alloc ?_ _ | refine Ext.drewN ?_ _ | refine Ext.drew ?_)))).mono ?_
      rintro e w2 ⟨v2, rfl, o2, x2⟩
      obtain ⟨a2, c2', rfl, -⟩ := o2.shape
      have I2 := Lib.hid o2.intsE
      have hf2 := o2.fit
      have X2 := Lib.hid (Ext.trans (show Ext wr _ by (repeat (first | exact Ext.refl _ | assumption | refine Ext.alloc ?_ _ | refine Ext.drewN ?_ _ | refine Ext.drew ?_))) x2)
      clear o2 x2 CB
      go_wp2_with fail
      refine (CA.out _ a2 c2' X2.out (HO.out.ext X2.out) I2.out hf2).mono ?_
      rintro e w3 ⟨v3, rfl, o3, x3⟩
      have O3 := Lib.hid o3
      have X3 := Lib.hid (HX.out.trans (X2.out.trans x3))
      clear o3 x3 CA
      go_wp2
      go_roundw
      case rel => exact Lib.hid ⟨k + 1, by omega, by go_num, by rw [HR1.out]; exact O3.out, X3.out⟩
      case measure => simp [intOf]; omega
    · obtain rfl : k = m := by omega
      have HO' : Hid (OwnLs wr w.heap.size (ek 3) 23 (.slice av (addTo [] (L.map (behindL · M)) k).length cv) (ordL (L.map (behindL · M)))) := by rw [← HF.out, ← HM.out]; exact HO.out
      have XX := Lib.hid (X1.out.trans hx)
      clear CBn CAn HRb ho hx HO HX
      generalize (addTo [] (L.map (behindL · M)) k).length = nv at *
      generalize L.map (behindL · M) = xs at *
      go_wp2_with fail
      refine (ih2.out _ (XX.out.trans (by (repeat (first | exact Ext.refl _ | assumption | refine Ext.alloc ?_ _ | refine Ext.drewN ?_ _ | refine Ext.drew ?_))))).mono ?_
      rintro e w2 ⟨vR, rfl, oR, x2⟩
      obtain ⟨aR, cR, rfl⟩ := oR.shape
      have OR := Lib.hid oR
      have X2 := Lib.hid (XX.out.trans (Ext.trans (by (repeat (first | exact Ext.refl _ | assumption | refine Ext.alloc ?_ _ | refine Ext.drewN ?_ _ | refine Ext.drew ?_))) x2))
      have O2 := Lib.hid (HO'.out.ext (Ext.trans (by (repeat (first | exact Ext.refl _ | assumption | refine Ext.alloc ?_ _ | refine Ext.drewN ?_ _ | refine Ext.drew ?_))) x2))
      have hz2 := X2.out.size
      obtain ⟨n, hn⟩ : ∃ n, n = R.length := ⟨_, rfl⟩
      have HN := Lib.hid hn
      have hn4 : n ≤ 4096 := by rw [hn]; exact HRl.out
      rw [← hn]
      obtain ⟨wo, hwo⟩ : ∃ wo, wo = wr := ⟨_, rfl⟩
      subst hwo
      clear hn oR x2 ih2 HO'
      go_wp2
      go_loopw [9, 19] (fun v i wr => Hid (∃ k : Nat, k ≤ n ∧ (0 < k → ce.testBit A = true) ∧ i = .int .i64 k ∧ OwnLs wr w.heap.size (ek 3) 23 v (addTo (ordL xs) R k) ∧ Ext w2 wr)) (fun _ i _ => n - (intOf i).toNat)
      case atStart => exact Lib.hid ⟨0, Nat.zero_le _, fun h => absurd h (by omega), rfl, O2.out.ext (by (repeat (first | exact Ext.refl _ | assumption | refine Ext.alloc ?_ _ | refine Ext.drewN ?_ _ | refine Ext.drew ?_))), by (repeat (first | exact Ext.refl _ | assumption | refine Ext.alloc ?_ _ | refine Ext.drewN ?_ _ | refine Ext.drew ?_))⟩
      case round =>
        obtain ⟨j, hjn, hjb, rfl, ho, hx⟩ := hrel.out
        clear hrel
        have HO := Lib.hid ho
        have HX := Lib.hid hx
        have hz3 := hx.size
        obtain ⟨av, cv, rfl⟩ := ho.shape
        by_cases hlt2 : j < n
        · have hkk : j < R.length := by rw [← HN.out]; exact hlt2
          obtain ⟨gL, rfl, -, zL, -, hrows⟩ := OR.out.row (by omega)
          obtain ⟨ai, ci, r1, r2, r3⟩ := hrows j hkk
          have r1' := hx.cell' r1 zL
          have CE1 := Lib.hid (CE.out wr (X2.out.trans hx))
          have CE2 := CBt
          rcases Bool.eq_false_or_eq_true (ce.testBit A) with hbt | hbt
          rotate_left
          · obtain rfl : j = 0 := by
              rcases Nat.eq_zero_or_pos j with e | e
              · exact e
              · have := hjb e; rw [hbt] at this; cases this
            rw [hbt] at CE2
            have HFin : Hid (ordL xs = RF) := by
              unfold Hid
              rw [← HRF.out, hbt, if_neg (by decide), List.append_nil]
            have HO' : Hid (OwnLs wr w.heap.size (ek 3) 23 (.slice av (addTo (ordL xs) R 0).length cv) RF) := by rw [← HFin.out]; exact HO.out
            clear HO HFin HRF
            clear hrows r1 r2 r3 ho hx hkk CAm HF HF2 hbt hjb
            generalize (addTo (ordL xs) R 0).length = n0 at *
            go_wp2_with (first
              | (go_at_call 119; refine CE1.out.mono ?_; rintro e w3 ⟨rfl, x3⟩; have X3 := Lib.hid x3; clear x3)
              | (go_at_call 107; refine (CE2.out _).mono ?_; rintro e w4 ⟨rfl, rfl⟩))
            go_ret
            exact ⟨_, rfl, HO'.out.ext (X3.out.trans (by (repeat (first | exact Ext.refl _ | assumption | refine Ext.alloc ?_ _ | refine Ext.drewN ?_ _ | refine Ext.drew ?_)))), X2.out.trans (HX.out.trans (X3.out.trans (by (repeat (first | exact Ext.refl _ | assumption | refine Ext.alloc ?_ _ | refine Ext.drewN ?_ _ | refine Ext.drew ?_)))))⟩
          · rw [hbt] at CE2
            have CA : Hid (∀ w', Ext wr w' → Calls Tryz.prog 158 #[.slice av (addTo (ordL xs) R j).length cv, .slice ai (rowI R j).length ci] w' (RetAdd w' w.heap.size (addTo (ordL xs) R (j + 1)))) := fun w' e =>
              CAm.out av cv ai ci j w' hkk (HO.out.ext e) (r3.ext (hx.trans e)) r2 (by have := X2.out.size; have := e.size; omega)
            have HX0 : Hid (∀ w', Ext wr w' → Ext w2 w') := fun w' e => hx.trans e
            have hgz := Nat.lt_of_lt_of_le zL hz3
            clear hrows r1 r2 r3 ho hx hkk CAm HF HF2
            generalize hR1 : addTo (ordL xs) R (j + 1) = R1 at *
            have HR1 := Lib.hid hR1
            clear hR1
            generalize addTo (ordL xs) R j = R0 at *
            generalize (rowI R j).length = nr at *
            go_wp2_with (first
              | (go_at_call 119; refine CE1.out.mono ?_; rintro e w3 ⟨rfl, x3⟩; have X3 := Lib.hid x3; have r1'' := x3.cell' r1' hgz; clear x3)
              | (go_at_call 107; refine (CE2.out _).mono ?_; rintro e w4 ⟨rfl, rfl⟩)
              | (go_at_call 158; refine (CA.out _ (X3.out.trans (by (repeat (first | exact Ext.refl _ | assumption | refine Ext.alloc ?_ _ | refine Ext.drewN ?_ _ | refine Ext.drew ?_))))).mono ?_; rintro e w5 ⟨v5, rfl, o5, x5⟩; have O5 := Lib.hid o5; have X5 := Lib.hid (HX0.out _ (X3.out.trans (Ext.trans (by (repeat (first | exact Ext.refl _ | assumption | refine Ext.alloc ?_ _ | refine Ext.drewN ?_ _ | refine Ext.drew ?_))) x5))); clear o5 x5))
            go_roundw
            case rel => exact Lib.hid ⟨j + 1, by omega, fun _ => hbt, by go_num, by rw [HR1.out]; exact O5.out, X5.out⟩
            case measure => simp [intOf]; omega
        · obtain rfl : j = n := by omega
          have HFin : Hid (RF = addTo (ordL xs) R j) := by
            unfold Hid
            rw [HN.out, ← HRF.out]
            cases hbt : ce.testBit A
            · have h0 : R.length = 0 := by
                rcases Nat.eq_zero_or_pos R.length with e | e
                · exact e
                · have := hjb (by rw [HN.out]; exact e); rw [hbt] at this; cases this
              rw [h0, if_neg (by decide), List.append_nil]
              rfl
            · rw [if_pos rfl]; exact HF2.out.symm
          have HO' : Hid (OwnLs wr w.heap.size (ek 3) 23 (.slice av (addTo (ordL xs) R j).length cv) RF) := by rw [HFin.out]; exact HO.out
          clear ho hx CAm HF HF2 hjb HFin CE CBt HO HRF
          generalize addTo (ordL xs) R j = R0 at *
          go_wp2
          go_ret
          exact ⟨_, rfl, HO'.out.ext (by (repeat (first | exact Ext.refl _ | assumption | refine Ext.alloc ?_ _ | refine Ext.drewN ?_ _ | refine Ext.drew ?_))), X2.out.trans (HX.out.trans (by (repeat (first | exact Ext.refl _ | assumption | refine Ext.alloc ?_ _ | refine Ext.drewN ?_ _ | refine Ext.drew ?_))))⟩
end Go.Proofs.YtlaamecfknkmlaaGreat
namespace Go.Proofs.YtlaamecfknkmlaaGreat
set_option linter.unusedVariables false
open Go.RowKit Go.Kt
set_option maxRecDepth 100000 in
set_option maxHeartbeats 4000000 in
theorem l4Parts_20 (A : Nat) (act : Int) (hA : A < 4) (hact : 16 ≤ act ∧ act ≤ 18) (c d : Kt) (hg : (Kt.two 20 c d).Good) (b off cb : Nat) (w : World) (hl : IntsE w (ek 3) (some ⟨b, off, none⟩) (Kt.two 20 c d).words) (hcb : (Kt.two 20 c d).words.length ≤ cb) (h40 : (Kt.two 20 c d).words.length ≤ 4096) (hbd : (Kt.two 20 c d).bnd ≤ 4096) (ih0 : ∀ w', Ext w w' → Calls Tryz.prog 120 #[.slice (some ⟨b, off, none⟩) c.words.length cb, .int .i64 A, .int .i64 act] w' (RetLs (ek 3) 23 w' (partsL A act c))) (ih20 : ∀ w', Ext w w' → Calls Tryz.prog 120 #[.slice (some ⟨b, off + c.words.length, none⟩) d.words.length (cb - c.words.length), .int .i64 A, .int .i64 act] w' (RetLs (ek 3) 23 w' (partsL A act d))) :
    Calls Tryz.prog 120 #[.slice (some ⟨b, off, none⟩) (Kt.two 20 c d).words.length cb, .int .i64 A, .int .i64 act] w (RetLs (ek 3) 23 w (partsL A act (.two 20 c d))) := by
  obtain ⟨hc, zb⟩ := IntsAt.at_ (xs := c.words ++ d.words) (ys := []) hl.1
  have hlx : ∀ {xs : List Int} {o : Nat}, IntsAt w (some ⟨b, o, none⟩) xs → IntsE w (ek 3) (some ⟨b, o, none⟩) xs := fun h => ⟨h, fun b' o' h0 ha => by
    have e := Option.some.inj ha
    have e2 : b = b' := congrArg Addr.block e
    subst e2
    exact hl.2 b off (Kt.two 20 c d).words_pos rfl⟩
  have hla : Hid (IntsE w (ek 3) (some ⟨b, off, none⟩) c.words) := hlx (IntsAt.left (xs := c.words) (IntsAt.left (xs := c.words ++ d.words) hl.1))
  have hlc : Hid (IntsE w (ek 3) (some ⟨b, off + c.words.length, none⟩) d.words) := hlx (IntsAt.right (xs := c.words) (IntsAt.left (xs := c.words ++ d.words) hl.1))
  have hlen : (Kt.two 20 c d).words.length = c.words.length + d.words.length + 1 := by simp [Kt.words]; omega
  have hH : Hid (∀ w', Ext w w' → Calls Tryz.prog 143 #[.slice (some ⟨b, off, none⟩) (c.words.length + d.words.length + 1) cb] w' fun e w'' => e = .returned (.tuple #[.slice (some ⟨b, off, none⟩) c.words.length cb, .slice (some ⟨b, off + c.words.length, none⟩) d.words.length (cb - c.words.length)]) ∧ w'' = w'.drew) := fun w' hx =>
    two_halves b off cb 20 c d hg.2.2 w' (hl.1.ext hx) hcb (by omega)
  have hbt := bnd_two 20 c d
  rw [hlen] at hcb h40 ⊢
  rw [List.length_append] at hc
  obtain ⟨q, hq⟩ : ∃ q, q = c.words.length := ⟨_, rfl⟩
  obtain ⟨r, hr'⟩ : ∃ r, r = d.words.length := ⟨_, rfl⟩
  have ih : Hid (∀ w', Ext w w' → Calls Tryz.prog 120 #[.slice (some ⟨b, off, none⟩) q cb, .int .i64 A, .int .i64 act] w' (RetLs (ek 3) 23 w' (partsL A act c))) := fun w' hx => by
    rw [hq]; exact ih0 w' hx
  have ih2 : Hid (∀ w', Ext w w' → Calls Tryz.prog 120 #[.slice (some ⟨b, off + q, none⟩) r (cb - q), .int .i64 A, .int .i64 act] w' (RetLs (ek 3) 23 w' (partsL A act d))) := fun w' hx => by
    rw [hq, hr']; exact ih20 w' hx
  have CE : Hid (∀ w', Ext w w' → Calls Tryz.prog 119 #[.slice (some ⟨b, off, none⟩) q cb] w' fun e w'' => e = .returned (.int .i64 (c.ends : Nat)) ∧ Ext w' w'') := fun w' hx => by
    rw [hq]; exact l4Ends_c c hg.2.1 b off cb w' (hla.out.ext hx).1 (by omega) (by omega)
  have CBt : Hid (∀ w', Calls Tryz.prog 107 #[.int .i64 (c.ends : Nat), .int .i64 A] w' fun e w'' => e = .returned (.int .i64 ((c.ends.testBit A).toNat : Nat)) ∧ w' = w'') := fun w' => l1Bit_c c.ends A w' (by have := c.ends_lt; omega) (by omega)
  have hP19 : Hid (partsL A act (.two 19 c d) = ordL ((partsL A act c).map (behindL · d.words) ++ if c.ends.testBit A then partsL A act d else [])) := partsL_then A act c d
  have hP20 : Hid (partsL A act (.two 20 c d) = ordL (partsL A act c ++ partsL A act d)) := partsL_plus A act c d
  have hlb : (partsL A act c).length ≤ 4096 := by have := partsL_len A act c; omega
  have hld : (partsL A act d).length ≤ 4096 := by have := partsL_len A act d; omega
  have hrb : ∀ x, x ∈ partsL A act c → 1 ≤ x.length ∧ x.length ≤ 4096 := fun x hx => by have := partsL_row hact.1 hx; omega
  have hrd : ∀ x, x ∈ partsL A act d → 1 ≤ x.length ∧ x.length ≤ 4096 := fun x hx => by have := partsL_row hact.1 hx; omega
  have HRb := Lib.hid hrb
  have HRd := Lib.hid hrd
  have HAsc := Lib.hid (asc_partsL A act c)
  rw [← hq, ← hr'] at hc hcb h40 hH ⊢
  rw [← hq] at hlc
  have hr4 : d.words.length ≤ 4096 := by omega
  obtain ⟨M, hM⟩ : ∃ M, M = d.words := ⟨_, rfl⟩
  rw [← hM] at hlc hr4 hr' hP19
  obtain ⟨L, hL⟩ : ∃ L, L = partsL A act c := ⟨_, rfl⟩
  obtain ⟨R, hR⟩ : ∃ R, R = partsL A act d := ⟨_, rfl⟩
  rw [← hL] at ih hlb HRb HAsc
  rw [← hR] at ih2 hld HRd
  have hw1 : IntKind.i64.wrap ((q : Int) + r + 1 - 1) = ((q + r : Nat) : Int) := by rw [IntWalk.i64_in _ (by omega)]; omega
  have hw2 : IntKind.i64.wrap ((q : Int) + r + 1 - 1) = (q : Int) + r := by rw [IntWalk.i64_in _ (by omega)]; omega
  have HLl := Lib.hid hlb
  have HRl := Lib.hid hld
  rw [hP20.out, ← hL, ← hR]
  have CAm : Hid (∀ av cv b3 c3 k w', k < R.length → OwnLs w' w.heap.size (ek 3) 23 (.slice av (addTo L R k).length cv) (addTo L R k) → IntsE w' (ek 3) b3 (rowI R k) → (rowI R k).length ≤ c3 → w.heap.size ≤ w'.heap.size → Calls Tryz.prog 158 #[.slice av (addTo L R k).length cv, .slice b3 (rowI R k).length c3] w' (RetAdd w' w.heap.size (addTo L R (k + 1)))) := fun av cv b3 c3 k w' hk ho hi hf hz =>
    add_step (fun x hx => by have := HRb.out x hx; omega) (fun x hx => by have := HRd.out x hx; omega) (by omega) (by omega) w.heap.size av b3 cv c3 k w' hk ho hi hf hz
  have HF2 : Hid (addTo L R R.length = ordL (L ++ R)) := addTo_ord HAsc.out R
  generalize hRF : ordL (L ++ R) = RF at *
  have HRF : Hid (addTo L R R.length = RF) := HF2.out
  clear hRF ih0 ih20
  clear hl hla hlen hbt hM hL hR hq hr' hlb hld hrb hrd hP19 hP20 HAsc hg hlx hlc HRd HRb HF2 CE CBt
  go_enter Tryz.func120, Tryz.ntmps120
  go_wp2_with fail
  refine (hH.out _ (by (repeat (first | exact Ext.refl _ | assumption | refine Ext.alloc ?_ _ | refine Ext.drewN ?_ _ | refine Ext.drew ?_)))).mono ?_
  rintro e w1 ⟨rfl, rfl⟩
  go_wp2_with fail
  refine (ih.out _ (by (repeat (first | exact Ext.refl _ | assumption | refine Ext.alloc ?_ _ | refine Ext.drewN ?_ _ | refine Ext.drew ?_)))).mono ?_
  rintro e w1 ⟨vL, rfl, oL, x1⟩
  obtain ⟨aL, cL, rfl⟩ := oL.shape
  have hz0 := x1.size
  have OL := Lib.hid (oL.mono (B' := w.heap.size) (by simp at hz0 ⊢))
  have X1 := Lib.hid (Ext.trans (show Ext w _ by (repeat (first | exact Ext.refl _ | assumption | refine Ext.alloc ?_ _ | refine Ext.drewN ?_ _ | refine Ext.drew ?_))) x1)
  have hz1 := X1.out.size
  clear oL x1 ih hz0
  go_wp2_with fail
  refine (ih2.out _ (X1.out.trans (by (repeat (first | exact Ext.refl _ | assumption | refine Ext.alloc ?_ _ | refine Ext.drewN ?_ _ | refine Ext.drew ?_))))).mono ?_
  rintro e w2 ⟨vR, rfl, oR, x2⟩
  obtain ⟨aR, cR, rfl⟩ := oR.shape
  have OR := Lib.hid oR
  have X2 := Lib.hid (X1.out.trans (Ext.trans (by (repeat (first | exact Ext.refl _ | assumption | refine Ext.alloc ?_ _ | refine Ext.drewN ?_ _ | refine Ext.drew ?_))) x2))
  have O2 := Lib.hid (OL.out.ext (Ext.trans (by (repeat (first | exact Ext.refl _ | assumption | refine Ext.alloc ?_ _ | refine Ext.drewN ?_ _ | refine Ext.drew ?_))) x2))
  have hz2 := X2.out.size
  obtain ⟨n, hn⟩ : ∃ n, n = R.length := ⟨_, rfl⟩
  have HN := Lib.hid hn
  have hn4 : n ≤ 4096 := by rw [hn]; exact HRl.out
  rw [← hn]
  clear hn oR x2 ih2 OL
  go_wp2
  go_loopw [9, 13] (fun v i wr => Hid (∃ k : Nat, k ≤ n ∧ i = .int .i64 k ∧ OwnLs wr w.heap.size (ek 3) 23 v (addTo L R k) ∧ Ext w2 wr)) (fun _ i _ => n - (intOf i).toNat)
  case atStart => exact Lib.hid ⟨0, Nat.zero_le _, rfl, O2.out.ext (by (repeat (first | exact Ext.refl _ | assumption | refine Ext.alloc ?_ _ | refine Ext.drewN ?_ _ | refine Ext.drew ?_))), by (repeat (first | exact Ext.refl _ | assumption | refine Ext.alloc ?_ _ | refine Ext.drewN ?_ _ | refine Ext.drew ?_))⟩
  case round =>
    obtain ⟨j, hjn, rfl, ho, hx⟩ := hrel.out
    clear hrel
    have HO := Lib.hid ho
    have HX := Lib.hid hx
    have hz3 := hx.size
    obtain ⟨av, cv, rfl⟩ := ho.shape
    by_cases hlt2 : j < n
    · have hkk : j < R.length := by rw [← HN.out]; exact hlt2
      obtain ⟨gL, rfl, -, zL, -, hrows⟩ := OR.out.row (by omega)
      obtain ⟨ai, ci, r1, r2, r3⟩ := hrows j hkk
      have r1' := hx.cell' r1 zL
      have CA : Hid (∀ w', Ext wr w' → Calls Tryz.prog 158 #[.slice av (addTo L R j).length cv, .slice ai (rowI R j).length ci] w' (RetAdd w' w.heap.size (addTo L R (j + 1)))) := fun w' e =>
        CAm.out av cv ai ci j w' hkk (HO.out.ext e) (r3.ext (hx.trans e)) r2 (by have := X2.out.size; have := e.size; omega)
      have HX0 : Hid (∀ w', Ext wr w' → Ext w2 w') := fun w' e => hx.trans e
      clear hrows r1 r2 r3 ho hx hkk CAm
      generalize hR1 : addTo L R (j + 1) = R1 at *
      have HR1 := Lib.hid hR1
      clear hR1
      generalize addTo L R j = R0 at *
      generalize (rowI R j).length = nr at *
      go_wp2_with (go_at_call 158; refine (CA.out _ (by (repeat (first | exact Ext.refl _ | assumption | refine Ext.alloc ?_ _ | refine Ext.drewN ?_ _ | refine Ext.drew ?_)))).mono ?_; rintro e w5 ⟨v5, rfl, o5, x5⟩; have O5 := Lib.hid o5; have X5 := Lib.hid (HX0.out _ (Ext.trans (by (repeat (first | exact Ext.refl _ | assumption | refine Ext.alloc ?_ _ | refine Ext.drewN ?_ _ | refine Ext.drew ?_))) x5)); clear o5 x5)
      go_roundw
      case rel => exact Lib.hid ⟨j + 1, by omega, by go_num, by rw [HR1.out]; exact O5.out, X5.out⟩
      case measure => simp [intOf]; omega
    · obtain rfl : j = n := by omega
      have HO' : Hid (OwnLs wr w.heap.size (ek 3) 23 (.slice av (addTo L R j).length cv) RF) := by rw [← HRF.out, ← HN.out]; exact HO.out
      clear ho hx CAm HO HRF
      generalize addTo L R j = R0 at *
      go_wp2
      go_ret
      exact ⟨_, rfl, HO'.out.ext (by (repeat (first | exact Ext.refl _ | assumption | refine Ext.alloc ?_ _ | refine Ext.drewN ?_ _ | refine Ext.drew ?_))), X2.out.trans (HX.out.trans (by (repeat (first | exact Ext.refl _ | assumption | refine Ext.alloc ?_ _ | refine Ext.drewN ?_ _ | refine Ext.drew ?_))))⟩
end Go.Proofs.YtlaamecfknkmlaaGreat
namespace Go.Proofs.YtlaamecfknkmlaaGreat
set_option linter.unusedVariables false
open Go.RowKit Go.Kt
set_option maxRecDepth 100000 in
set_option maxHeartbeats 4000000 in
theorem l4Parts_c (A : Nat) (act : Int) (hA : A < 4) (hact : 16 ≤ act ∧ act ≤ 18) : ∀ (t : Kt), t.Good → ∀ (b off cb : Nat) (w : World), IntsE w (ek 3) (some ⟨b, off, none⟩) t.words → t.words.length ≤ cb → t.words.length ≤ 4096 → t.bnd ≤ 4096 →
      Calls Tryz.prog 120 #[.slice (some ⟨b, off, none⟩) t.words.length cb, .int .i64 A, .int .i64 act] w (RetLs (ek 3) 23 w (partsL A act t))
  | .leaf x, hg, b, off, cb, w, hl, hcb, h40, hbd => by
    have hg : 0 ≤ x ∧ x ≤ 18 := hg
    obtain ⟨hc, zb⟩ := IntsAt.at_ (xs := []) (ys := []) hl.1
    simp only [Kt.words, List.length_nil, Nat.add_zero, List.length_cons, Nat.zero_add] at hc hcb ⊢
    clear hl h40 hbd
    have h18 := hg.2
    have hF := partsL_leaf A act x A
    by_cases h : x = act
    · rw [if_pos h] at hF
      have HF := Lib.hid hF
      subst h
      clear hF
      go_enter Tryz.func120, Tryz.ntmps120
      go_wp2_with (at_builtin; refine any_append_ls (by rfl) _ _ _ rfl w.heap.size (ek 3) 23 neE Tryz.underlying24 infoInts _ [] rfl (by first | exact (OwnLs.empty _ _ _).ext (by (repeat (first | exact Ext.refl _ | assumption | refine Ext.alloc ?_ _ | refine Ext.drewN ?_ _ | refine Ext.drew ?_))) | exact OwnLs.empty _ _ _) _ _ _ [.slice (some ⟨w.heap.size + 1, 0, none⟩) 1 1] [[15]] rfl rfl (SrcLs.one ((lit1E (w' := w.alloc (.cells #[] 23)) (by simp) 15).ext (by (repeat (first | exact Ext.refl _ | assumption | refine Ext.alloc ?_ _ | refine Ext.drewN ?_ _ | refine Ext.drew ?_)))) (by simp) (by simp [go_sem])) (by simp) (by simp; try omega) ?_)
      intro v7 w7 o7 g7
      have X7 := Lib.hid (OwnLs.grown (w0 := w) (by first | exact (OwnLs.empty _ (ek 3) _).ext (by (repeat (first | exact Ext.refl _ | assumption | refine Ext.alloc ?_ _ | refine Ext.drewN ?_ _ | refine Ext.drew ?_))) | exact OwnLs.empty _ (ek 3) _) (by (repeat (first | exact Ext.refl _ | assumption | refine Ext.alloc ?_ _ | refine Ext.drewN ?_ _ | refine Ext.drew ?_))) g7)
      have O7 := Lib.hid o7
      clear o7 g7
      go_wp2
      go_ret
      exact ⟨v7, rfl, by rw [HF.out]; exact O7.out.ext (by (repeat (first | exact Ext.refl _ | assumption | refine Ext.alloc ?_ _ | refine Ext.drewN ?_ _ | refine Ext.drew ?_))), X7.out.trans (by (repeat (first | exact Ext.refl _ | assumption | refine Ext.alloc ?_ _ | refine Ext.drewN ?_ _ | refine Ext.drew ?_)))⟩
    · rw [if_neg h] at hF
      have HF := Lib.hid hF
      have hne : (x == act) = false := by simpa using h
      clear hF h
      go_enter Tryz.func120, Tryz.ntmps120
      go_wp2
      go_ret
      exact ⟨_, rfl, by rw [HF.out]; exact OwnLs.empty _ _ _, by (repeat (first | exact Ext.refl _ | assumption | refine Ext.alloc ?_ _ | refine Ext.drewN ?_ _ | refine Ext.drew ?_))⟩
  | .star c, hg, b, off, cb, w, hl, hcb, h40, hbd => by
    have hbt := bnd_star c
    have hlen : (Kt.star c).words.length = c.words.length + 1 := by simp [Kt.words]
    have hla : IntsE w (ek 3) (some ⟨b, off, none⟩) c.words := ⟨IntsAt.left (xs := c.words) hl.1, fun b' o' h0 ha => hl.2 b' o' (Kt.star c).words_pos ha⟩
    exact l4Parts_star A act hA hact c hg b off cb w hl hcb h40 hbd fun w' hx => l4Parts_c A act hA hact c hg b off cb w' (hla.ext hx) (by omega) (by omega) (by omega)
  | .two x c d, hg, b, off, cb, w, hl, hcb, h40, hbd => by
    have hbt := bnd_two x c d
    have hlen : (Kt.two x c d).words.length = c.words.length + d.words.length + 1 := by simp [Kt.words]; omega
    have hlx : ∀ {xs : List Int} {o : Nat}, IntsAt w (some ⟨b, o, none⟩) xs → IntsE w (ek 3) (some ⟨b, o, none⟩) xs := fun h => ⟨h, fun b' o' h0 ha => by
      have e := Option.some.inj ha
      have e2 : b = b' := congrArg Addr.block e
      subst e2
      exact hl.2 b off (Kt.two x c d).words_pos rfl⟩
    have hla := hlx (IntsAt.left (xs := c.words) (IntsAt.left (xs := c.words ++ d.words) hl.1))
    have hlc := hlx (IntsAt.right (xs := c.words) (IntsAt.left (xs := c.words ++ d.words) hl.1))
    have ih0 : ∀ w', Ext w w' → Calls Tryz.prog 120 #[.slice (some ⟨b, off, none⟩) c.words.length cb, .int .i64 A, .int .i64 act] w' (RetLs (ek 3) 23 w' (partsL A act c)) := fun w' hx => l4Parts_c A act hA hact c hg.2.1 b off cb w' (hla.ext hx) (by omega) (by omega) (by omega)
    have ih20 : ∀ w', Ext w w' → Calls Tryz.prog 120 #[.slice (some ⟨b, off + c.words.length, none⟩) d.words.length (cb - c.words.length), .int .i64 A, .int .i64 act] w' (RetLs (ek 3) 23 w' (partsL A act d)) := fun w' hx => l4Parts_c A act hA hact d hg.2.2 b (off + c.words.length) (cb - c.words.length) w' (hlc.ext hx) (by omega) (by omega) (by omega)
    rcases (show x = 19 ∨ x = 20 from hg.1) with rfl | rfl
    · exact l4Parts_19 A act hA hact c d hg b off cb w hl hcb h40 hbd ih0 ih20
    · exact l4Parts_20 A act hA hact c d hg b off cb w hl hcb h40 hbd ih0 ih20
end Go.Proofs.YtlaamecfknkmlaaGreat
