/- The law: what is written is read as it was; without any pair of its brackets it is not (FnKatText). -/
import Derived.Test.YtcjnihhinnedkaaDoorSc
import Derived.Test.YtcjnihhinnedkaaDoorSt
namespace Go.Kt
set_option linter.unusedVariables false
/-- A text without two of its bytes. -/
def cutS (s : ByteArray) (a b : Nat) : ByteArray := s.extract 0 a ++ s.extract (a + 1) b ++ s.extract (b + 1) s.size
theorem bs_extract (s : ByteArray) (i j : Nat) : bs (s.extract i j) = ((bs s).take j).drop i := by
  have h := Lib.extract_toList s i j
  rw [Lib.toList_data] at h
  unfold bs
  rw [h, List.drop_take]
theorem cut_count {s : ByteArray} {a b : Nat} (hab : a < b) (hb : b < s.size) (ha : s[a] = 40) : (bs (cutS s a b)).count 40 + 1 ≤ (bs s).count 40 := by
  have hl : (bs s).length = s.size := rfl
  have e : bs (cutS s a b) = (bs s).take a ++ ((bs s).take b).drop (a + 1) ++ (bs s).drop (b + 1) := by
    unfold cutS
    rw [bs_app, bs_app, bs_extract, bs_extract, bs_extract, List.drop_zero, List.take_of_length_le (Nat.le_of_eq hl)]
  have e1 : bs s = (bs s).take b ++ (bs s).drop b := (List.take_append_drop b _).symm
  have e2 : (bs s).drop b = (bs s)[b] :: (bs s).drop (b + 1) := List.drop_eq_getElem_cons (by omega)
  have e3 : (bs s).take b = ((bs s).take b).take a ++ ((bs s).take b).drop a := (List.take_append_drop a _).symm
  have hlb : ((bs s).take b).length = b := by rw [List.length_take]; omega
  have e4 : ((bs s).take b).drop a = ((bs s).take b)[a] :: ((bs s).take b).drop (a + 1) := List.drop_eq_getElem_cons (by omega)
  have e5 : ((bs s).take b)[a] = 40 := by rw [List.getElem_take]; exact ha
  have e6 : ((bs s).take b).take a = (bs s).take a := by rw [List.take_take]; congr 1; omega
  have h : (bs s).count 40 = ((bs s).take a ++ 40 :: ((bs s).take b).drop (a + 1) ++ (bs s)[b] :: (bs s).drop (b + 1)).count 40 := by
    rw [← e2, ← e5, ← e4, ← e6, ← e3, ← e1]
  rw [e, h]
  simp only [List.count_append, List.count_cons, beq_self_eq_true, if_true]
  omega
theorem readF_len {x : List UInt8} {l : List Int} (h : some l = readF x) : l.length ≤ 40 := by
  unfold readF at h
  split at h
  · cases hx : rSum (x.length + 1) x with
    | none => rw [hx] at h; cases h
    | some p =>
      obtain ⟨m, y⟩ := p
      rw [hx] at h
      cases y with
      | cons c y => cases h
      | nil =>
        simp only at h
        split at h
        · rename_i hk
          obtain rfl := Option.some.inj h
          exact (kvB_len hk).2
        · cases h
  · cases h
/-- Without a pair of brackets a text does not tell its expression. -/
theorem cut_other {t : Kt} (hg : t.Good) {a b : Nat} (hab : a < b) (hb : b < t.txt.size) (ha : t.txt[a] = 40) {l : List Int} (h : readF (bs (cutS t.txt a b)) = some l) : (l == t.words) = false := by
  rw [beq_eq_false_iff_ne]
  rintro rfl
  obtain ⟨u, hu, hw, hp⟩ := readF_pays h
  have e : u = t := by rw [← treeL_words hu, hw, treeL_words hg]
  subst e
  have := cut_count hab hb ha
  unfold pn at hp
  omega
end Go.Kt
namespace Go.Proofs.YtcjnihhinnedkaaDoor
set_option linter.unusedVariables false
open Go.RowKit Go.Kt

theorem kalive_c (w : World) : Calls Tryd.prog 14 #[] w fun e w' => e = .returned (.bool true) ∧ w = w' := by
  go_enter Tryd.func14, Tryd.ntmps14
  go_wp2
  go_ret
  exact ⟨rfl, rfl⟩
theorem drawKatText_c (a : Option Addr) (cap : Nat) (l : List Int) (w : World) (h : BytesAt w a l) (hlen : l.length ≤ 1048576) (hcap : l.length ≤ cap) :
    Calls Tryd.prog 17 #[.slice a l.length cap] w (RetD w 41) := by
  go_enter Tryd.func17, Tryd.ntmps17
  go_wp2_with fail
  refine (l20Open_c a cap l _ (h.ext (by (repeat (first | exact Ext.refl _ | assumption | refine Ext.alloc ?_ _ | refine Ext.drewN ?_ _ | refine Ext.drew ?_)))) hlen hcap).mono ?_
  rintro e w1 ⟨g, rfl, hg, hr0, hx0⟩
  have hg1 := hr0.lt
  have hxw := Lib.hid (Ext.trans (show Ext w _ by (repeat (first | exact Ext.refl _ | assumption | refine Ext.alloc ?_ _ | refine Ext.drewN ?_ _ | refine Ext.drew ?_))) hx0)
  have hz0 := hx0.size
  go_wp2_with fail
  refine (l20Kat_c g 0 8 9 _ (hr0.ext (by (repeat (first | exact Ext.refl _ | assumption | refine Ext.alloc ?_ _ | refine Ext.drewN ?_ _ | refine Ext.drew ?_)))) (by omega) (by omega)).mono ?_
  rintro e w2 ⟨v3, L3, rfl, ho, hl, -, htc⟩
  have hx2 := Lib.hid (htc.ext hxw.out (by omega))
  clear htc
  go_wp2
  go_ret
  exact ⟨_, L3, rfl, ho.mono (by omega), hl, hx2.out⟩
theorem ktestS_pos (t : Nat) : 1 ≤ (testS t).size := by
  unfold testS
  split
  · rename_i h
    rcases (show t = 0 ∨ t = 3 ∨ t = 5 ∨ t = 10 ∨ t = 12 ∨ t = 15 by simp [namedB] at h; omega) with rfl | rfl | rfl | rfl | rfl | rfl
    all_goals decide
  · rw [ByteArray.size_append, sz1]; omega
theorem ktxt_pos : ∀ t : Kt, 1 ≤ t.txt.size
  | .leaf x => by
    unfold Kt.txt
    split
    · exact ktestS_pos _
    · exact Nat.le_refl _
  | .star a => by unfold Kt.txt; rw [ByteArray.size_append, sz1]; omega
  | .two s a b => by
    unfold Kt.txt
    split
    · rw [ByteArray.size_append, ByteArray.size_append, sz1]; omega
    · rw [ByteArray.size_append, ByteArray.size_append, sz1]; omega
set_option maxRecDepth 100000 in
set_option maxHeartbeats 1000000 in
theorem fnKatText_c (a : Option Addr) (cap : Nat) (l : List Int) (w : World) (h : BytesAt w a l) (hlen : l.length ≤ 9223372036854775807) (hcap : l.length ≤ cap) (hn : NamesW w) :
    Calls Tryd.prog 5 #[.slice a l.length cap] w fun e w' => e = .returned (.bool true) ∧ Ext w w' := by
  by_cases hb1 : l.length ≤ 1048576
  · have HB := Lib.hid h
    have HN := Lib.hid hn
    clear h hn
    go_enter Tryd.func5, Tryd.ntmps5
    go_wp2_with fail
    refine (drawKatText_c a cap l _ HB.out hb1 hcap).mono ?_
    rintro e w1 ⟨v1, L, rfl, o1, hl41, hx1⟩
    obtain ⟨a1, c1, rfl, i1⟩ := o1.shape
    have hcap1 : L.length ≤ c1 := own_capv o1
    clear o1
    have hLL : L.length ≤ 1048576 := by omega
    have HI1 := Lib.hid i1
    have HX1 := Lib.hid hx1
    clear i1 hx1
    cases hv : kvB L
    · have hk : katS L = ⟨#[]⟩ := by unfold katS; rw [hv]; rfl
      go_wp2_with fail
      refine (iKatText_c a1 c1 L _ HI1.out (by omega) (HN.out.ext HX1.out)).mono ?_
      rw [hk]
      rintro e w2 ⟨rfl, hx2⟩
      have HX2 := Lib.hid (HX1.out.trans hx2)
      have HI2 := Lib.hid (HI1.out.ext hx2)
      clear hx2
      go_wp2_with fail
      refine (sKatText_c a1 c1 L _ HI2.out (by omega) hcap1).mono ?_
      rw [hk]
      rintro e w3 ⟨rfl, hx3⟩
      have HX3 := Lib.hid (HX2.out.trans hx3)
      have HI3 := Lib.hid (HI2.out.ext hx3)
      clear hx3
      go_wp2_with fail
      refine (iKatValid_c a1 c1 L _ HI3.out (by omega)).mono ?_
      rw [hv]
      rintro e w4 ⟨rfl, rfl⟩
      go_wp2_with (go_at_call 14; refine (kalive_c _).mono ?_; rintro e w5 ⟨rfl, rfl⟩)
      go_ret
      exact ⟨rfl, HX3.out⟩
    · obtain ⟨t, hg, rfl⟩ := kvB_tree hv
      have h40 := (kvB_len hv).2
      have hk : katS t.words = t.txt := by unfold katS; rw [hv, treeL_words hg]; rfl
      have hrd := readF_txt hg h40 hv
      have hfit := t.txt_fit hg
      have hpos := ktxt_pos t
      have hsz : t.txt.size ≤ 199 := by omega
      have HC : Hid (∀ (x y : Nat), x < y → ∀ hy : y < t.txt.size, ∀ hx : x < t.txt.size, t.txt[x] = 40 → ∀ l, readF (bs (cutS t.txt x y)) = some l → (l == t.words) = false) := fun x y hxy hy hx h40 l hl => cut_other hg hxy hy h40 hl
      have hwl : t.words.length ≤ 1048576 := hLL
      clear hfit hv hg
      generalize t.txt = T at *
      generalize hW : t.words = L at *
      clear hW
      have hwl2 : L.length ≤ 4194304 := by omega
      go_wp2_with fail
      refine (iKatText_c a1 c1 L _ HI1.out hwl2 (HN.out.ext HX1.out)).mono ?_
      rw [hk]
      rintro e w2 ⟨rfl, hx2⟩
      have HX2 := Lib.hid (HX1.out.trans hx2)
      have HI2 := Lib.hid (HI1.out.ext hx2)
      clear hx2 HI1 HX1
      go_wp2_with fail
      refine (sKatText_c a1 c1 L _ HI2.out hwl2 hcap1).mono ?_
      rw [hk]
      rintro e w3 ⟨rfl, hx3⟩
      have HX3 := Lib.hid (HX2.out.trans hx3)
      have HI3 := Lib.hid (HI2.out.ext hx3)
      have hne : T.toList.isEmpty = false := by
        rw [Lib.toList_data]
        have : (bs T).length = T.size := rfl
        show (bs T).isEmpty = false
        cases hT : bs T with
        | nil => rw [hT] at this; simp at this; omega
        | cons c r => rfl
      clear hx3 HI2 HX2 hk
      go_wp2_with fail
      refine (readKat_c T _ (HN.out.ext HX3.out)).mono ?_
      rw [hrd]
      rintro e w4 ⟨v4, rfl, o4, hx4⟩
      replace o4 : OwnI w4 w3.heap.size 3 v4 L := o4
      obtain ⟨a4, c4, rfl, i4⟩ := o4.shape
      have HX4 := Lib.hid (HX3.out.trans hx4)
      have HI4 := Lib.hid (HI3.out.ext hx4)
      have HJ4 := Lib.hid i4
      have hq : (L == L) = true := by simp
      clear hx4 HI3 HX3 hrd o4 i4
      go_wp2_with fail
      refine (sameInts_c a4 a1 c4 c1 L L _ HJ4.out HI4.out (by omega) (by omega)).mono ?_
      rw [hq]
      rintro e w5 ⟨rfl, hx5⟩
      have HX5 := Lib.hid (HX4.out.trans hx5)
      have HI5 := Lib.hid (HI4.out.ext hx5)
      clear hx5 HI4 HX4 HJ4
      go_wp2
      go_loopw [7] (fun i wr => Hid (∃ k : Nat, k ≤ T.size ∧ i = .int .i64 k ∧ Ext w5 wr)) (fun i _ => T.size - (intOf i).toNat)
      case atStart => exact Lib.hid ⟨0, Nat.zero_le _, rfl, by (repeat (first | exact Ext.refl _ | assumption | refine Ext.alloc ?_ _ | refine Ext.drewN ?_ _ | refine Ext.drew ?_))⟩
      case round =>
        obtain ⟨k, hkT, rfl, hx⟩ := hrel.out
        have HX := Lib.hid hx
        clear hrel hx
        by_cases hlt : k < T.size
        · obtain ⟨wp, rfl⟩ : ∃ wp : World, wp = wr := ⟨_, rfl⟩
          cases h40 : (T[k] == 40)
          · have hb40 : (((T[k]).toNat : Int) == 40) = false := by
              rw [beq_eq_false_iff_ne]; intro e
              have e3 : T[k] = 40 := UInt8.toNat_inj.1 (by have : (40 : UInt8).toNat = 40 := rfl; omega)
              rw [e3] at h40; simp at h40
            go_wp2
            go_loopw [8, 9] (fun dp i wr => Hid (i = .int .i64 k ∧ dp = .int .i64 0 ∧ Ext wp wr)) (fun _ _ _ => 0)
            case atStart => exact Lib.hid ⟨rfl, rfl, by (repeat (first | exact Ext.refl _ | assumption | refine Ext.alloc ?_ _ | refine Ext.drewN ?_ _ | refine Ext.drew ?_))⟩
            case round =>
              obtain ⟨rfl, rfl, hx⟩ := hrel.out
              have HX2 := Lib.hid hx
              clear hrel hx
              go_wp2
              go_roundw
              case rel => exact Lib.hid ⟨k + 1, by omega, by go_num, HX.out.trans (HX2.out.trans (by (repeat (first | exact Ext.refl _ | assumption | refine Ext.alloc ?_ _ | refine Ext.drewN ?_ _ | refine Ext.drew ?_))))⟩
              case measure => simp [intOf]; omega
          · have hk40 : T[k] = 40 := by simpa using h40
            have hb40 : (((T[k]).toNat : Int) == 40) = true := by rw [hk40]; rfl
            have HCk : Hid (∀ (y : Nat), k < y → y < T.size → ∀ l, readF (bs (cutS T k y)) = some l → (l == L) = false) := fun y hy hyT l hl => HC.out k y hy hyT hlt hk40 l hl
            have HK40 := Lib.hid hk40
            clear h40 hk40
            go_wp2
            go_loopw [8, 9] (fun dp i wr => Hid (∃ b d : Nat, k ≤ b ∧ b ≤ T.size ∧ d ≤ b ∧ i = .int .i64 b ∧ dp = .int .i64 d ∧ (b = k ∧ d = 0 ∨ k < b ∧ 1 ≤ d) ∧ Ext wp wr)) (fun _ i _ => T.size - (intOf i).toNat)
            case atStart => exact Lib.hid ⟨k, 0, Nat.le_refl _, by omega, by omega, rfl, rfl, .inl ⟨rfl, rfl⟩, by (repeat (first | exact Ext.refl _ | assumption | refine Ext.alloc ?_ _ | refine Ext.drewN ?_ _ | refine Ext.drew ?_))⟩
            case round =>
              obtain ⟨b, d, hkb, hbT, hdb, rfl, rfl, hst, hx⟩ := hrel.out
              have HX2 := Lib.hid hx
              clear hrel hx
              by_cases hbl : b < T.size
              · by_cases hc40 : T[b] = 40
                · have hc1 : (((T[b]).toNat : Int) == 40) = true := by rw [hc40]; rfl
                  have hc2 : (((T[b]).toNat : Int) == 41) = false := by rw [hc40]; rfl
                  have hd0 : ((d : Int) + 1 == 0) = false := by rw [beq_eq_false_iff_ne]; omega
                  clear hc40 hst
                  go_wp2
                  go_roundw
                  case rel => exact Lib.hid ⟨b + 1, d + 1, by omega, by omega, by omega, by go_num, by go_num, .inr ⟨by omega, by omega⟩, HX2.out.trans (by (repeat (first | exact Ext.refl _ | assumption | refine Ext.alloc ?_ _ | refine Ext.drewN ?_ _ | refine Ext.drew ?_)))⟩
                  case measure => simp [intOf]; omega
                · have hkb2 : k < b := by
                    rcases hst with ⟨rfl, _⟩ | h
                    · exact absurd HK40.out hc40
                    · exact h.1
                  have hd1 : 1 ≤ d := by
                    rcases hst with ⟨rfl, _⟩ | h
                    · exact absurd HK40.out hc40
                    · exact h.2
                  have hc1 : (((T[b]).toNat : Int) == 40) = false := by
                    rw [beq_eq_false_iff_ne]; intro e
                    exact hc40 (UInt8.toNat_inj.1 (by have : (40 : UInt8).toNat = 40 := rfl; omega))
                  clear hc40
                  by_cases hc41 : T[b] = 41
                  · have hc2 : (((T[b]).toNat : Int) == 41) = true := by rw [hc41]; rfl
                    by_cases hd : d = 1
                    · subst hd
                      clear hc41
                      go_wp2
                      have HCb := Lib.hid (HCk.out b hkb2 hbl)
                      have HNr := Lib.hid (HN.out.ext (HX5.out.trans (HX.out.trans HX2.out)))
                      have hk1 : k + 1 ≤ b := hkb2
                      have hb1' : b + 1 ≤ T.size := hbl
                      have g1 : (0 : Int) ≤ (k : Int) := by omega
                      have g2 : (k : Int) ≤ (T.size : Int) := by omega
                      have g3 : IntKind.i64.wrap ((k : Int) + 1) = (k : Int) + 1 := IntWalk.i64_in _ (by omega)
                      have g4 : IntKind.i64.wrap ((b : Int) + 1) = (b : Int) + 1 := IntWalk.i64_in _ (by omega)
                      have g5 : (0 : Int) ≤ (k : Int) + 1 := by omega
                      have g6 : (k : Int) + 1 ≤ (b : Int) := by omega
                      have g7 : (b : Int) ≤ (T.size : Int) := by omega
                      have g8 : (0 : Int) ≤ (b : Int) + 1 := by omega
                      have g9 : (b : Int) + 1 ≤ (T.size : Int) := by omega
                      have z1 : (T.extract 0 k).size ≤ 199 := by rw [ByteArray.size_extract]; omega
                      have z2 : (T.extract (k + 1) b).size ≤ 199 := by rw [ByteArray.size_extract]; omega
                      have z3 : (T.extract (b + 1) T.size).size ≤ 199 := by rw [ByteArray.size_extract]; omega
                      have hadd1 : ∀ W : World, (Op.stringOp .add (T.extract 0 k) (T.extract (k + 1) b)).run Tryd.prog W = .ok (.string (T.extract 0 k ++ T.extract (k + 1) b)) W := fun W => run_string_add_sum (P := Tryd.prog) W _ _ (by omega)
                      have hadd2 : ∀ W : World, (Op.stringOp .add (T.extract 0 k ++ T.extract (k + 1) b) (T.extract (b + 1) T.size)).run Tryd.prog W = .ok (.string (T.extract 0 k ++ T.extract (k + 1) b ++ T.extract (b + 1) T.size)) W := fun W => run_string_add_sum (P := Tryd.prog) W _ _ (by rw [ByteArray.size_append]; omega)
                      clear z1 z2 z3
                      obtain ⟨o, hO⟩ : ∃ o, Hid (o = readF (bs (cutS T k b))) := ⟨_, rfl⟩
                      have CR : Hid (∀ w', Ext wr w' → Calls Tryd.prog 18 #[.string (T.extract 0 k ++ T.extract (k + 1) b ++ T.extract (b + 1) T.size)] w' (RetIB w' (o.getD []) o.isSome)) := fun w' hx => by
                        rw [hO.out]; exact readKat_c (cutS T k b) w' (HNr.out.ext hx)
                      clear HCk HNr hst
                      go_region_held3 (fun _ => True) (exact trivial) ((go_at_call 18; refine (CR.out _ (by (repeat (first | exact Ext.refl _ | assumption | refine Ext.alloc ?_ _ | refine Ext.drewN ?_ _ | refine Ext.drew ?_)))).mono ?_; rintro e wk ⟨vk, rfl, ok, yk⟩))
                      have HX3 := Lib.hid (HX2.out.trans (Ext.trans (show Ext wr _ by (repeat (first | exact Ext.refl _ | assumption | refine Ext.alloc ?_ _ | refine Ext.drewN ?_ _ | refine Ext.drew ?_))) yk))
                      have HI5' := Lib.hid (HI5.out.ext (HX.out.trans HX3.out))
                      clear hadd1 hadd2 CR g1 g2 g3 g4 g5 g6 g7 g8 g9
                      cases o with
                      | none =>
                        clear ok yk hO HCb
                        go_wp2
                        go_roundw
                        case rel => exact Lib.hid ⟨k + 1, by omega, by go_num, HX.out.trans (HX3.out.trans (by (repeat (first | exact Ext.refl _ | assumption | refine Ext.alloc ?_ _ | refine Ext.drewN ?_ _ | refine Ext.drew ?_))))⟩
                        case measure => simp [intOf]; omega
                      | some l' =>
                        have hq' : (l' == L) = false := HCb.out l' hO.out.symm
                        replace ok : OwnI wk wr.heap.size 3 vk l' := ok.mono (by simp)
                        obtain ⟨ak, ck, rfl, ik⟩ := ok.shape
                        have hl' : l'.length ≤ 4611686018427387904 := by
                          have := readF_len hO.out; omega
                        have HIk := Lib.hid ik
                        clear ok yk hO HCb ik
                        go_wp2_with fail
                        refine (sameInts_c ak a1 ck c1 l' L _ HIk.out HI5'.out hl' (by omega)).mono ?_
                        rw [hq']
                        rintro e w7 ⟨rfl, hx7⟩
                        have HX7 := Lib.hid (HX.out.trans (HX3.out.trans hx7))
                        clear hx7
                        go_wp2
                        go_roundw
                        case rel => exact Lib.hid ⟨k + 1, by omega, by go_num, HX7.out.trans (by (repeat (first | exact Ext.refl _ | assumption | refine Ext.alloc ?_ _ | refine Ext.drewN ?_ _ | refine Ext.drew ?_)))⟩
                        case measure => simp [intOf]; omega
                    · have hd0 : ((d : Int) - 1 == 0) = false := by rw [beq_eq_false_iff_ne]; omega
                      clear hc41
                      go_wp2
                      go_roundw
                      case rel => exact Lib.hid ⟨b + 1, d - 1, by omega, by omega, by omega, by go_num, by go_num, .inr ⟨by omega, by omega⟩, HX2.out.trans (by (repeat (first | exact Ext.refl _ | assumption | refine Ext.alloc ?_ _ | refine Ext.drewN ?_ _ | refine Ext.drew ?_)))⟩
                      case measure => simp [intOf]; omega
                  · have hc2 : (((T[b]).toNat : Int) == 41) = false := by
                      rw [beq_eq_false_iff_ne]; intro e
                      exact hc41 (UInt8.toNat_inj.1 (by have : (41 : UInt8).toNat = 41 := rfl; omega))
                    have hd0 : ((d : Int) == 0) = false := by rw [beq_eq_false_iff_ne]; omega
                    clear hc41
                    go_wp2
                    go_roundw
                    case rel => exact Lib.hid ⟨b + 1, d, by omega, by omega, by omega, by go_num, rfl, .inr ⟨by omega, by omega⟩, HX2.out.trans (by (repeat (first | exact Ext.refl _ | assumption | refine Ext.alloc ?_ _ | refine Ext.drewN ?_ _ | refine Ext.drew ?_)))⟩
                    case measure => simp [intOf]; omega
              · obtain rfl : b = T.size := by omega
                go_wp2
                go_roundw
                case rel => exact Lib.hid ⟨k + 1, by omega, by go_num, HX.out.trans (HX2.out.trans (by (repeat (first | exact Ext.refl _ | assumption | refine Ext.alloc ?_ _ | refine Ext.drewN ?_ _ | refine Ext.drew ?_))))⟩
                case measure => simp [intOf]; omega
        · obtain rfl : k = T.size := by omega
          go_wp2
          go_ret
          exact ⟨rfl, HX5.out.trans (HX.out.trans (by (repeat (first | exact Ext.refl _ | assumption | refine Ext.alloc ?_ _ | refine Ext.drewN ?_ _ | refine Ext.drew ?_))))⟩
  · go_enter Tryd.func5, Tryd.ntmps5
    go_wp2
    go_ret
    exact ⟨rfl, Ext.refl _⟩
end Go.Proofs.YtcjnihhinnedkaaDoor
