/- Merged texts: contracts and plain lemmas (Yh, Yi). -/
import Derived.Test.YtlaamecfknkmlaaGreatGtYg
import Derived.Lib.SliceRun
import Derived.Deep.Upon
import Derived.Test.YtlaamecfknkmlaaGreatGt4
namespace Go.Kt
set_option linter.unusedVariables false
/-- The first n lists, each but where it is as the one before. -/
def ddTo (ll : List (List Int)) : Nat → List (List Int)
  | 0 => []
  | n + 1 => ddTo ll n ++ if n ≠ 0 ∧ rowI ll n = rowI ll (n - 1) then [] else [rowI ll n]
theorem ddTo_same {ll : List (List Int)} {n : Nat} (h0 : 1 ≤ n) (h : rowI ll n = rowI ll (n - 1)) : ddTo ll (n + 1) = ddTo ll n := by
  show ddTo ll n ++ _ = _
  rw [if_pos ⟨by omega, h⟩, List.append_nil]
theorem ddTo_new {ll : List (List Int)} {n : Nat} (h : n = 0 ∨ rowI ll n ≠ rowI ll (n - 1)) : ddTo ll (n + 1) = ddTo ll n ++ [rowI ll n] := by
  show ddTo ll n ++ _ = _
  rw [if_neg (fun e => h.elim (fun h => e.1 h) (fun h => h e.2))]
theorem ddTo_take {ll : List (List Int)} : ∀ n, n ≤ ll.length → (∀ j, 1 ≤ j → j < n → rowI ll j ≠ rowI ll (j - 1)) → ddTo ll n = ll.take n
  | 0, _, _ => by simp [ddTo]
  | n + 1, hn, h => by
    rw [ddTo_new (by by_cases h0 : n = 0; exact .inl h0; exact .inr (h n (by omega) (by omega))), ddTo_take n (by omega) (fun j h1 h2 => h j h1 (by omega)), List.take_add_one, List.getElem?_eq_getElem (by omega), rowI_getElem _ _ (show n < ll.length by omega)]
    rfl
theorem dedup_snoc (x : List Int) : ∀ L : List (List Int), dedup (L ++ [x]) = dedup L ++ if L.getLast? = some x then [] else [x]
  | [] => by simp [dedup]
  | [y] => by
    show dedup [y, x] = _
    simp only [dedup]
    by_cases h : y = x
    · subst h; simp
    · rw [if_neg h]; simp [h]
  | y :: z :: M => by
    have ih := dedup_snoc x (z :: M)
    have e : (y :: z :: M).getLast? = (z :: M).getLast? := by simp
    rw [e]
    show dedup (y :: z :: (M ++ [x])) = _
    by_cases h : y = z
    · simp only [dedup, if_pos h]
      exact ih
    · simp only [dedup, if_neg h]
      have ih' : dedup (z :: (M ++ [x])) = _ := ih
      rw [ih']; rfl
theorem ddTo_end (ll : List (List Int)) : ∀ n, n ≤ ll.length → ddTo ll n = dedup (ll.take n)
  | 0, _ => by simp [ddTo, dedup]
  | n + 1, hn => by
    have ih := ddTo_end ll n (by omega)
    have e : ll.take (n + 1) = ll.take n ++ [rowI ll n] := by
      rw [List.take_add_one, List.getElem?_eq_getElem (by omega), rowI_getElem _ _ (show n < ll.length by omega)]; rfl
    rw [e, dedup_snoc, ← ih]
    show ddTo ll n ++ _ = _
    congr 1
    by_cases h0 : n = 0
    · subst h0; simp
    · have hl : (ll.take n).getLast? = some (rowI ll (n - 1)) := by
        rw [List.getLast?_eq_getElem?, List.length_take, Nat.min_eq_left (by omega), List.getElem?_take_of_lt (by omega), List.getElem?_eq_getElem (by omega), rowI_getElem _ _ (show n - 1 < ll.length by omega)]
      rw [hl]
      by_cases h : rowI ll n = rowI ll (n - 1)
      · rw [if_pos ⟨h0, h⟩, if_pos (by rw [h])]
      · rw [if_neg (fun e => h e.2), if_neg (fun e => h (Option.some.inj e).symm)]
theorem dedup_short {ll : List (List Int)} (h : ll.length < 2) : dedup ll = ll := by
  match ll, h with
  | [], _ => rfl
  | [x], _ => rfl
/-- A row is stored. -/
theorem OwnLs.put {w : World} {B : Nat} {E : Ek} {ER g cap k ci : Nat} {ll : List (List Int)} {ai : Option Addr} {l : List Int} (hE : E.t ≠ ER) (h : OwnLs w B E ER (.slice (some ⟨g, 0, none⟩) ll.length cap) ll) (hu : IntsE w E ai l) (hc : l.length ≤ ci) :
    OwnLs (w.setCell ⟨g, k, none⟩ (.slice ai l.length ci)) B E ER (.slice (some ⟨g, 0, none⟩) ll.length cap) (ll.set k l) ∧ w.grownBy (w.setCell ⟨g, k, none⟩ (.slice ai l.length ci)) (some g) := by
  have hty := h.typed
  obtain ⟨vs, h1, h2⟩ := h
  have hs := World.ownsRow.stored h1 k (.slice ai l.length ci)
  refine ⟨⟨vs.set k (.slice ai l.length ci), by rw [List.length_set]; exact hs.1, by rw [List.length_set, List.length_set]; exact h2.1, fun i hi => ?_⟩, hs.2⟩
  rw [List.length_set] at hi
  have hk := fun (a : Option Addr) (m : List Int) (h : IntsE w E a m) => h.kept hs.2 hty hE
  by_cases hik : k = i
  · subst hik
    refine ⟨ai, ci, ?_, ?_, ?_⟩
    · rw [rowI_getElem _ _ (by rw [List.length_set]; exact hi), List.getElem?_set]
      simp [h2.1, hi]
    · rw [rowI_getElem _ _ (by rw [List.length_set]; exact hi)]; simpa using hc
    · rw [rowI_getElem _ _ (by rw [List.length_set]; exact hi)]; simpa using hk _ _ hu
  · obtain ⟨a, c, k1, k2, k3⟩ := h2.2 i hi
    have e : rowI (ll.set k l) i = rowI ll i := by
      rw [rowI_getElem _ _ (by rw [List.length_set]; exact hi), rowI_getElem _ _ hi, List.getElem_set_ne (by omega)]
    rw [e]
    exact ⟨a, c, by rw [List.getElem?_set_ne (by omega)]; exact k1, k2, hk _ _ k3⟩
/-- The slice is cut behind its first places. -/
theorem OwnLs.cut {w : World} {B : Nat} {E : Ek} {ER g cap : Nat} {xs ys : List (List Int)} (h : OwnLs w B E ER (.slice (some ⟨g, 0, none⟩) (xs ++ ys).length cap) (xs ++ ys)) : OwnLs w B E ER (.slice (some ⟨g, 0, none⟩) xs.length cap) xs := by
  obtain ⟨vs, h1, h2⟩ := h
  have hv := h2.1
  rw [List.length_append] at hv
  obtain ⟨hl, hc⟩ := h1
  rcases hc with ⟨hv', _⟩ | ⟨g', cap', cur, hv', hB, hg, hn, hcm, hs, ht⟩
  · simp at hv'
  · obtain ⟨rfl, rfl⟩ : g = g' ∧ cap = cap' := by simp at hv'; exact ⟨hv'.1, hv'.2⟩
    rw [List.length_append] at hn
    refine ⟨vs.take xs.length, ⟨by rw [List.length_take, hv]; omega, .inr ⟨g, cap, cur, rfl, hB, hg, by omega, hcm, hs, ?_⟩⟩, by rw [List.length_take, hv]; omega, fun i hi => ?_⟩
    · rw [← ht, List.take_take, Nat.mul_one, List.length_append, Nat.mul_one, Nat.min_eq_left (by omega)]
    · obtain ⟨a, c, k1, k2, k3⟩ := h2.2 i (by rw [List.length_append]; omega)
      rw [rowI_left hi] at k1 k2 k3
      exact ⟨a, c, by rw [List.getElem?_take_of_lt hi]; exact k1, k2, k3⟩
/-- Cells behind the slice are written. -/
theorem OwnLs.tail {B : Nat} {E : Ek} {ER g cap : Nat} {ll : List (List Int)} (hE : E.t ≠ ER) : ∀ (zs : List Value) (o : Nat) (w : World), ll.length ≤ o → OwnLs w B E ER (.slice (some ⟨g, 0, none⟩) ll.length cap) ll →
    OwnLs (w.setCells g o zs) B E ER (.slice (some ⟨g, 0, none⟩) ll.length cap) ll ∧ w.grownBy (w.setCells g o zs) (some g)
  | [], o, w, _, h => ⟨h, (Ext.refl w).grown _⟩
  | z :: zs, o, w, ho, h => by
    have hty := h.typed
    obtain ⟨vs, h1, h2⟩ := h
    have hs := World.ownsRow.stored h1 o z
    have e : vs.set o z = vs := List.set_eq_of_length_le (by rw [h2.1]; exact ho)
    rw [e] at hs
    have := OwnLs.tail (B := B) (cap := cap) hE zs (o + 1) (w.setCell ⟨g, o, none⟩ z) (by omega) ⟨vs, hs.1, h2.kept hs.2 hty hE⟩
    refine ⟨this.1, ?_⟩
    have a := hs.2
    have b := this.2
    exact ⟨b.os.trans a.os, b.tape.trans a.tape, b.output.trans a.output, Nat.le_trans a.size b.size, fun k hk hne => (b.block k (Nat.lt_of_lt_of_le hk a.size) hne).trans (a.block k hk hne)⟩
theorem grown_trans {w w' w'' : World} {row : Option Nat} (a : w.grownBy w' row) (b : w'.grownBy w'' row) : w.grownBy w'' row :=
  ⟨b.os.trans a.os, b.tape.trans a.tape, b.output.trans a.output, Nat.le_trans a.size b.size, fun k hk hne => (b.block k (Nat.lt_of_lt_of_le hk a.size) hne).trans (a.block k hk hne)⟩
/-- While equal neighbours are dropped. -/
structure CompSt (w wr : World) (B : Nat) (E : Ek) (ER g cap k j : Nat) (ll : List (List Int)) : Prop where
  own : OwnLs wr B E ER (.slice (some ⟨g, 0, none⟩) ll.length cap) (ddTo ll j ++ ll.drop k)
  len : (ddTo ll j).length = k
  kj : k < j
  jn : j ≤ ll.length
  gr : w.grownBy wr (some g)
end Go.Kt
namespace Go.Kt
set_option linter.unusedVariables false
theorem CompSt.mlen {w wr : World} {B : Nat} {E : Ek} {ER g cap k j : Nat} {ll : List (List Int)} (h : CompSt w wr B E ER g cap k j ll) : (ddTo ll j ++ ll.drop k).length = ll.length := by
  have := h.kj; have := h.jn
  rw [List.length_append, h.len, List.length_drop]; omega
theorem rowI_back {D ll : List (List Int)} {k i : Nat} (hD : D.length = k) (hi : k ≤ i) (hn : i < ll.length) : rowI (D ++ ll.drop k) i = rowI ll i := by
  obtain ⟨j, rfl⟩ : ∃ j, i = D.length + j := ⟨i - D.length, by omega⟩
  subst hD
  rw [rowI_right (by rw [List.length_drop]; omega), rowI_getElem _ _ (by rw [List.length_drop]; omega), rowI_getElem _ _ hn, List.getElem_drop]
theorem CompSt.cell {w wr : World} {B : Nat} {E : Ek} {ER g cap k j : Nat} {ll : List (List Int)} (h : CompSt w wr B E ER g cap k j ll) {i : Nat} (hi : k ≤ i) (hn : i < ll.length) :
    ∃ ai ci, wr.cell? ⟨g, i, none⟩ = some (.slice ai (rowI ll i).length ci) ∧ (rowI ll i).length ≤ ci ∧ IntsE wr E ai (rowI ll i) := by
  have hm := h.mlen
  obtain ⟨g', e, _, _, _, hr⟩ := h.own.row (by omega)
  obtain rfl : g = g' := by simpa using e
  obtain ⟨ai, ci, k1, k2, k3⟩ := hr i (by omega)
  rw [rowI_back h.len hi hn] at k1 k2 k3
  exact ⟨ai, ci, k1, k2, k3⟩
theorem CompSt.gsz {w wr : World} {B : Nat} {E : Ek} {ER g cap k j : Nat} {ll : List (List Int)} (h : CompSt w wr B E ER g cap k j ll) : B ≤ g ∧ g < wr.heap.size ∧ ∀ i, wr.frozen? ⟨g, i, none⟩ = false := by
  have hm := h.mlen
  have := h.kj; have := h.jn
  obtain ⟨g', e, h1, h2, h3, _⟩ := h.own.row (by omega)
  obtain rfl : g = g' := by simpa using e
  exact ⟨h1, h2, h3⟩
theorem CompSt.drawn {w wr : World} {B : Nat} {E : Ek} {ER g cap k j : Nat} {ll : List (List Int)} (h : CompSt w wr B E ER g cap k j ll) {w' : World} (e : Ext wr w') : CompSt w w' B E ER g cap k j ll :=
  ⟨h.own.ext e, h.len, h.kj, h.jn, grown_trans h.gr (e.grown _)⟩
theorem CompSt.skip {w wr : World} {B : Nat} {E : Ek} {ER g cap k j : Nat} {ll : List (List Int)} (h : CompSt w wr B E ER g cap k j ll) (hj : j < ll.length) (he : rowI ll j = rowI ll (j - 1)) : CompSt w wr B E ER g cap k (j + 1) ll := by
  have h1 := h.kj
  have e := ddTo_same (n := j) (by omega) he
  exact ⟨by rw [e]; exact h.own, by rw [e]; exact h.len, by omega, hj, h.gr⟩
theorem CompSt.keep {w wr : World} {B : Nat} {E : Ek} {ER g cap k j ci : Nat} {ll : List (List Int)} {ai : Option Addr} (hE : E.t ≠ ER) (h : CompSt w wr B E ER g cap k j ll) (hj : j < ll.length) (he : rowI ll j ≠ rowI ll (j - 1)) (hu : IntsE wr E ai (rowI ll j)) (hc : (rowI ll j).length ≤ ci) :
    CompSt w (wr.setCell ⟨g, k, none⟩ (.slice ai (rowI ll j).length ci)) B E ER g cap (k + 1) (j + 1) ll := by
  have h1 := h.kj
  have hm := h.mlen
  have e := ddTo_new (n := j) (.inr he)
  have ho := h.own
  rw [← hm] at ho
  have hp := OwnLs.put (k := k) hE ho hu hc
  rw [hm] at hp
  have e2 : (ddTo ll j ++ ll.drop k).set k (rowI ll j) = ddTo ll j ++ [rowI ll j] ++ ll.drop (k + 1) := by
    rw [List.set_append_right _ _ (by rw [h.len]; omega), h.len, Nat.sub_self, List.drop_eq_getElem_cons (show k < ll.length by omega), List.set_cons_zero, List.append_assoc]; rfl
  rw [e2] at hp
  exact ⟨by rw [e]; exact hp.1, by rw [e, List.length_append, h.len]; rfl, by omega, hj, grown_trans h.gr hp.2⟩
/-- What dropping equal neighbours comes to. -/
def RetCp (w : World) (B : Nat) (E : Ek) (ER : Nat) (v : Value) (mm : List (List Int)) (e : Ending) (w' : World) : Prop := ∃ v', e = .returned v' ∧ OwnLs w' B E ER v' mm ∧ w.grownBy w' v.ownBlock
theorem CompSt.done {w wr : World} {B : Nat} {E : Ek} {ER g cap k : Nat} {ll : List (List Int)} (hE : E.t ≠ ER) (h : CompSt w wr B E ER g cap k ll.length ll) (zs : List Value) :
    OwnLs (wr.setCells g k zs) B E ER (.slice (some ⟨g, 0, none⟩) k cap) (dedup ll) ∧ w.grownBy (wr.setCells g k zs) (some g) := by
  have ho : OwnLs wr B E ER (.slice (some ⟨g, 0, none⟩) (ddTo ll ll.length ++ ll.drop k).length cap) (ddTo ll ll.length ++ ll.drop k) := by rw [h.mlen]; exact h.own
  have hc := OwnLs.cut ho
  rw [h.len] at hc
  have hl := h.len
  rw [← hl] at hc
  have ht := OwnLs.tail hE zs k wr (by rw [hl]; exact Nat.le_refl _) hc
  rw [hl] at ht
  have e : ddTo ll ll.length = dedup ll := by rw [ddTo_end ll _ (Nat.le_refl _), List.take_length]
  rw [e] at ht
  exact ⟨ht.1, grown_trans h.gr ht.2⟩
end Go.Kt
namespace Go.Proofs.YtlaamecfknkmlaaGreat
set_option linter.unusedVariables false
open Go.RowKit Go.Kt

theorem zeroSl (w : World) : (zeroValue 23).run Tryz.prog w = .ok (.slice none 0 0) w := by kernel_rfl
set_option maxRecDepth 100000 in
set_option maxHeartbeats 1000000 in
theorem compact_c {X : Nat → Prop} (a : Option Addr) (cap : Nat) (ll : List (List Int)) (B : Nat) (w : World) (h : OwnLs w B (Ek.mk 3 X) 23 (.slice a ll.length cap) ll) (hn : ll.length ≤ 4194304) (hf : ∀ i, i < ll.length → (rowI ll i).length ≤ 4611686018427387904) :
    Calls Tryz.prog 132 #[.slice a ll.length cap, .func (.func 133) #[] #[]] w (RetCp w B (Ek.mk 3 X) 23 (.slice a ll.length cap) (dedup ll)) := by
  by_cases h2 : ll.length < 2
  · rw [dedup_short h2]
    have HO := Lib.hid h
    clear h
    go_enter Tryz.func132, Tryz.ntmps132
    go_wp2
    go_ret
    exact ⟨_, rfl, HO.out, (Ext.refl w).grown _⟩
  · obtain ⟨g, rfl, hB, hg, hfz, -⟩ := h.row (by omega)
    have HO := Lib.hid h
    have HF := Lib.hid hf
    have hcap : ll.length ≤ cap := by
      obtain ⟨vs, h1, _⟩ := h
      rcases h1.2 with ⟨hv, _⟩ | ⟨g', cap', cur, hv, _, _, hnc, _⟩
      · simp at hv
      · simp at hv; omega
    clear h hf
    obtain ⟨n, hnn⟩ : ∃ n, n = ll.length := ⟨_, rfl⟩
    have HN := Lib.hid hnn
    rw [← hnn] at hn h2 hcap ⊢
    clear hnn
    go_enter Tryz.func132, Tryz.ntmps132
    go_wp2
    go_loopw [5] (fun i wr => Hid (∃ k : Nat, 1 ≤ k ∧ k ≤ n ∧ i = .int .i64 k ∧ (∀ j, 1 ≤ j → j < k → rowI ll j ≠ rowI ll (j - 1)) ∧ ∃ m, wr = w.drewN m)) (fun i _ => n - (intOf i).toNat)
    case atStart => exact Lib.hid ⟨1, by omega, by omega, rfl, fun j h1 h2 => by omega, 0, rfl⟩
    case round =>
      obtain ⟨k, hk1, hk, rfl, hno, m, rfl⟩ := hrel.out
      have HNo := Lib.hid hno
      clear hrel hno
      by_cases hlt : k < n
      · obtain ⟨g', e, -, hgs, hfz', hrow⟩ := HO.out.row (by have := HN.out; omega)
        obtain rfl : g = g' := by simpa using e
        obtain ⟨a1, c1, d1, f1, i1⟩ := hrow k (by have := HN.out; omega)
        obtain ⟨a2, c2, d2, f2, i2⟩ := hrow (k - 1) (by have := HN.out; omega)
        have I1 := Lib.hid i1
        have I2 := Lib.hid i2
        have CE : Hid (∀ m', Calls Tryz.prog 133 #[.slice a1 (rowI ll k).length c1, .slice a2 (rowI ll (k - 1)).length c2] (w.drewN (m + m')) fun e w' => e = .returned (.bool (rowI ll k == rowI ll (k - 1))) ∧ ∃ q, w' = (w.drewN (m + m')).drewN q) := fun m' => by
          exact equal_c a1 a2 c1 c2 _ _ _ (I1.out.1.ext ((Ext.refl _).drewN _)) (I2.out.1.ext ((Ext.refl _).drewN _)) (HF.out k (by have := HN.out; omega)) (HF.out (k - 1) (by have := HN.out; omega))
        have hwk : IntKind.i64.wrap ((k : Int) - 1) = ((k - 1 : Nat) : Int) := by rw [IntWalk.i64_in _ (by omega)]; omega
        have hk1' : ((k - 1 : Nat) : Int) < (n : Int) := by omega
        by_cases he : rowI ll k = rowI ll (k - 1)
        · have hq : (rowI ll k == rowI ll (k - 1)) = true := by rw [he]; simp
          rw [hq] at CE
          have HE := Lib.hid he
          have HLk : Hid ((rowI ll (k - 1)).length = (rowI ll (k - 1)).length) := rfl
          have HS0 : Hid (ddTo ll k = ll.take k) := ddTo_take k (by have := HN.out; omega) HNo.out
          clear he hq hrow I1 I2 i1 i2 f1 f2 HLk
          generalize (rowI ll k).length = len1 at *
          generalize (rowI ll (k - 1)).length = len2 at *
          go_wp2
          go_quiet ((go_at_call 133; exact quiet_drawn_add (CE.out _)))
          have HC0 : Hid (CompSt w (w.drewN (m + nq)) B (Ek.mk 3 X) 23 g cap k (k + 1) ll) := by
            have hkl : k < ll.length := by have := HN.out; omega
            have e := ddTo_same (n := k) hk1 HE.out
            refine ⟨?_, ?_, by omega, by omega, ((Ext.refl w).drewN (m + nq)).grown _⟩
            · rw [e, HS0.out, List.take_append_drop]; exact HO.out.ext ((Ext.refl w).drewN (m + nq))
            · rw [e, HS0.out, List.length_take]; omega
          clear HNo CE HE HS0 d1 d2
          have hnk : (n : Int) - (k : Int) = ((n - k : Nat) : Int) := by omega
          go_wp2
          go_loopw [5, 7] (fun kv jv wr => Hid (∃ kk k2 : Nat, kv = .int .i64 kk ∧ jv = .int .i64 k2 ∧ 1 ≤ k2 ∧ k2 ≤ n - k ∧ kk ≤ k + k2 ∧ CompSt w wr B (Ek.mk 3 X) 23 g cap kk (k + k2) ll)) (fun _ jv _ => (n - k) - (intOf jv).toNat)
          case atStart => exact Lib.hid ⟨k, 1, rfl, rfl, by omega, by omega, by omega, HC0.out⟩
          case round =>
            obtain ⟨kk, k2, rfl, rfl, hk21, hk2n, hkk, hst⟩ := hrel.out
            have HST := Lib.hid hst
            have hkj := hst.kj
            clear hrel HC0 hst
            by_cases hlt2 : k2 < n - k
            · obtain ⟨a1, c1, d1, f1, i1⟩ := HST.out.cell (i := k + k2) (by omega) (by have := HN.out; omega)
              obtain ⟨a2, c2, d2, f2, i2⟩ := HST.out.cell (i := k + (k2 - 1)) (by omega) (by have := HN.out; omega)
              have I1 := Lib.hid i1
              have I2 := Lib.hid i2
              have F1 := Lib.hid f1
              obtain ⟨-, zg, fz⟩ := HST.out.gsz
              have fz0 := fz kk
              obtain ⟨a0, c0', d0, -, -⟩ := HST.out.cell (i := kk) (Nat.le_refl _) (by have := HN.out; omega)
              have CE : Hid (∀ m', Calls Tryz.prog 133 #[.slice a1 (rowI ll (k + k2)).length c1, .slice a2 (rowI ll (k + (k2 - 1))).length c2] (wr.drewN m') fun e w' => e = .returned (.bool (rowI ll (k + k2) == rowI ll (k + (k2 - 1)))) ∧ ∃ q, w' = (wr.drewN m').drewN q) := fun m' => by
                exact equal_c a1 a2 c1 c2 _ _ _ (I1.out.1.ext ((Ext.refl _).drewN _)) (I2.out.1.ext ((Ext.refl _).drewN _)) (HF.out _ (by have := HN.out; omega)) (HF.out _ (by have := HN.out; omega))
              have hwk2 : IntKind.i64.wrap ((k2 : Int) - 1) = ((k2 - 1 : Nat) : Int) := by rw [IntWalk.i64_in _ (by omega)]; omega
              have hk2' : ((k2 - 1 : Nat) : Int) < ((n - k : Nat) : Int) := by omega
              have hk2i : (k2 : Int) < ((n - k : Nat) : Int) := by omega
              have hkkn : (kk : Int) < (n : Int) := by omega
              have hjn : k + k2 < ll.length := by have := HN.out; omega
              have hj1 : Hid (k + (k2 - 1) = k + k2 - 1) := by unfold Hid; omega
              clear i1 i2 f1 f2 fz
              by_cases he : rowI ll (k + k2) = rowI ll (k + k2 - 1)
              · have hq : (rowI ll (k + k2) == rowI ll (k + (k2 - 1))) = true := by rw [hj1.out, he]; simp
                rw [hq] at CE
                have HSk := Lib.hid (HST.out.skip hjn he)
                clear he hq I1 I2 F1
                generalize (rowI ll (k + k2)).length = len1 at *
                generalize (rowI ll (k + (k2 - 1))).length = len2 at *
                go_wp2
                go_quiet ((go_at_call 133; exact quiet_drawn (CE.out _)))
                go_wp2
                go_roundw
                case rel => exact Lib.hid ⟨kk, k2 + 1, rfl, by go_num, by omega, by omega, by omega, HSk.out.drawn (by (repeat (first | exact Ext.refl _ | assumption | refine Ext.alloc ?_ _ | refine Ext.drewN ?_ _ | refine Ext.drew ?_)))⟩
                case measure => simp [intOf]; omega
              · have hq : (rowI ll (k + k2) == rowI ll (k + (k2 - 1))) = false := by rw [hj1.out, beq_eq_false_iff_ne]; exact he
                rw [hq] at CE
                have HSk : Hid (CompSt w (wr.setCell ⟨g, kk, none⟩ (.slice a1 (rowI ll (k + k2)).length c1)) B (Ek.mk 3 X) 23 g cap (kk + 1) (k + k2 + 1) ll) := HST.out.keep neE hjn he I1.out F1.out
                clear he hq I1 I2 F1
                generalize (rowI ll (k + k2)).length = len1 at *
                generalize (rowI ll (k + (k2 - 1))).length = len2 at *
                go_wp2
                go_quiet ((go_at_call 133; exact quiet_drawn (CE.out _)))
                go_wp2
                go_roundw
                case rel => exact Lib.hid ⟨kk + 1, k2 + 1, by go_num, by go_num, by omega, by omega, by omega, HSk.out.drawn ((Ext.refl _).drewN nq)⟩
                case measure => simp [intOf]; omega
            · obtain rfl : k2 = n - k := by omega
              have hjn : k + (n - k) = ll.length := by have := HN.out; omega
              rw [hjn] at HST
              have hkn : kk < n := by have := HST.out.kj; have := HN.out; omega
              have hwn : IntKind.i64.wrap ((n : Int) - (kk : Int)) = ((n - kk : Nat) : Int) := by rw [IntWalk.i64_in _ (by omega)]; omega
              have HD : Hid (∀ q zs, OwnLs ((wr.drewN q).setCells g kk zs) B (Ek.mk 3 X) 23 (.slice (some ⟨g, 0, none⟩) kk cap) (dedup ll) ∧ w.grownBy ((wr.drewN q).setCells g kk zs) (some g)) := fun q zs => CompSt.done neE (HST.out.drawn ((Ext.refl wr).drewN q)) zs
              have HD0 : Hid (∀ zs, OwnLs (wr.setCells g kk zs) B (Ek.mk 3 X) 23 (.slice (some ⟨g, 0, none⟩) kk cap) (dedup ll) ∧ w.grownBy (wr.setCells g kk zs) (some g)) := fun zs => CompSt.done neE HST.out zs
              obtain ⟨-, zg, fz⟩ := HST.out.gsz
              have hcl : ∀ (ty : TypeId), (Builtin.clear_ #[24] ty #[.slice (some ⟨g, kk, none⟩) (n - kk) (cap - kk)]).run Tryz.prog wr = .ok (.tuple #[]) (wr.setCells g kk (List.replicate (n - kk) (.slice none 0 0))) := fun ty =>
                Lib.run_clear_slice wr 24 23 ty (.slice none 0 0) Tryz.underlying24 zeroSl rfl rfl g kk (n - kk) (cap - kk) (by omega) (fun j hj => by
                  obtain ⟨ai, ci, e, -⟩ := HST.out.cell (i := kk + j) (by omega) (by have := HN.out; omega)
                  rw [e]; rfl) (fun j hj => fz _)
              clear fz
              generalize hZ : wr.setCells g kk (List.replicate (n - kk) (.slice none 0 0)) = W at *
              have HDW : Hid (OwnLs W B (Ek.mk 3 X) 23 (.slice (some ⟨g, 0, none⟩) kk cap) (dedup ll) ∧ w.grownBy W (some g)) := by rw [← hZ]; exact HD0.out _
              clear HD HD0 hZ HST
              have hkc : (kk : Int) ≤ (cap : Int) := by omega
              go_wp2
              go_ret
              exact ⟨.slice (some ⟨g, 0, none⟩) kk cap, rfl, HDW.out.1, HDW.out.2⟩
        · have hq : (rowI ll k == rowI ll (k - 1)) = false := by rw [beq_eq_false_iff_ne]; exact he
          rw [hq] at CE
          have HE := Lib.hid he
          clear he hq hrow I1 I2 i1 i2 f1 f2
          generalize (rowI ll k).length = len1 at *
          generalize (rowI ll (k - 1)).length = len2 at *
          go_wp2
          go_quiet ((go_at_call 133; exact quiet_drawn_add (CE.out _)))
          go_wp2
          go_roundw
          case rel => exact Lib.hid ⟨k + 1, by omega, by omega, by go_num, fun j h1 h2 => by
            by_cases hjk : j = k
            · subst hjk; exact HE.out
            · exact HNo.out j h1 (by omega), by first | exact ⟨_, rfl⟩ | exact drawn2 _ _ _⟩
          case measure => simp [intOf]; omega
      · obtain rfl : k = n := by omega
        have e : dedup ll = ll := by
          have := ddTo_end ll ll.length (Nat.le_refl _)
          rw [List.take_length] at this
          rw [← this, ddTo_take _ (Nat.le_refl _) (by rw [← HN.out]; exact HNo.out), List.take_length]
        go_wp2
        go_ret
        refine ⟨.slice (some ⟨g, 0, none⟩) k cap, rfl, ?_, ((Ext.refl w).drewN m).grown _⟩
        have hkn := HN.out
        rw [hkn, e]
        exact HO.out.ext ((Ext.refl w).drewN m)
end Go.Proofs.YtlaamecfknkmlaaGreat
