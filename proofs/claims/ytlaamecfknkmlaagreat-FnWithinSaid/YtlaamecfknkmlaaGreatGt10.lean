/- Merged texts: contracts and plain lemmas (Av, Au, Am, Sk). -/
import Derived.Test.YtlaamecfknkmlaaGreatGt2
import Derived.Test.YtlaamecfknkmlaaGreatGt4
import Derived.Test.YtlaamecfknkmlaaGreatGt1
import Derived.Deep.RegionHeld3
import Derived.Deep.AppendLies
import Derived.BigQuiet
namespace Go.Kt
set_option linter.unusedVariables false
open Go.Proofs.YtlaamecfknkmlaaGreat

/-- The place of a part. -/
def plcN (L : List (List Int)) (q : List Int) : Nat := L.findIdx fun x => decide (q = x)
theorem plc_findR (L : List (List Int)) (q : List Int) : findR (fun x => decide (q = x)) L = if q ∈ L then ((plcN L q : Nat) : Int) else -1 := by
  have h : (L.any fun x => decide (q = x)) = decide (q ∈ L) := by
    rw [Bool.eq_iff_iff, List.any_eq_true, decide_eq_true_eq]
    constructor
    · rintro ⟨x, hx, he⟩; rw [decide_eq_true_eq] at he; subst he; exact hx
    · intro hx; exact ⟨q, hx, by simp⟩
  unfold findR plcN
  rw [h]
  by_cases hq : q ∈ L
  · simp [hq]
  · simp [hq]
theorem plc_neg (L : List (List Int)) (q : List Int) : decide (findR (fun x => decide (q = x)) L < 0) = decide (q ∉ L) := by
  rw [plc_findR]
  by_cases hq : q ∈ L
  · rw [if_pos hq]; simp [hq]
  · rw [if_neg hq]; simp [hq]
theorem plc_lt {L : List (List Int)} {q : List Int} (h : q ∈ L) : plcN L q < L.length := by
  unfold plcN
  exact List.findIdx_lt_length_of_exists ⟨q, h, by simp⟩
theorem plc_row {L : List (List Int)} {q : List Int} (h : q ∈ L) : rowI L (plcN L q) = q := by
  have hl := plc_lt h
  have := List.findIdx_getElem (p := fun x => decide (q = x)) (xs := L) (w := hl)
  rw [rowI_getElem _ _ hl]
  exact (of_decide_eq_true this).symm
theorem row_inj {L : List (List Int)} (hn : L.Nodup) {i j : Nat} (hi : i < L.length) (hj : j < L.length) (h : rowI L i = rowI L j) : i = j := by
  rw [rowI_getElem _ _ hi, rowI_getElem _ _ hj] at h
  have hp := List.pairwise_iff_getElem.1 hn
  rcases Nat.lt_trichotomy i j with hlt | rfl | hlt
  · exact absurd h (hp i j hi hj hlt)
  · rfl
  · exact absurd h.symm (hp j i hj hi hlt)
/-- The set of the places of the first so many parts. -/
def orPn (L ps : List (List Int)) : Nat → Nat
  | 0 => 0
  | j + 1 => orN (orPn L ps j) (pow2 (plcN L (rowI ps j)))
theorem testBit_orPn (L ps : List (List Int)) (i : Nat) : ∀ j, (orPn L ps j).testBit i = true ↔ ∃ k, k < j ∧ plcN L (rowI ps k) = i
  | 0 => by simp [orPn]
  | j + 1 => by
    unfold orPn
    rw [testBit_orN, Bool.or_eq_true, testBit_orPn L ps i j, testBit_pow2, decide_eq_true_eq]
    constructor
    · rintro (⟨k, h1, h2⟩ | h)
      · exact ⟨k, by omega, h2⟩
      · exact ⟨j, by omega, h⟩
    · rintro ⟨k, h1, h2⟩
      by_cases e : k = j
      · subst e; exact .inr h2
      · exact .inl ⟨k, by omega, h2⟩
theorem orPn_all {L ps : List (List Int)} (hn : L.Nodup) (h : ∀ q, q ∈ ps → q ∈ L) : orPn L ps ps.length = idxN L ps L.length := by
  refine bits_eq fun i => ?_
  rw [testBit_orPn, testBit_idxN]
  constructor
  · rintro ⟨k, hk, rfl⟩
    have hm : rowI ps k ∈ ps := by rw [rowI_getElem _ _ hk]; exact List.getElem_mem hk
    exact ⟨plc_lt (h _ hm), by rw [plc_row (h _ hm)]; exact hm⟩
  · rintro ⟨hi, hm⟩
    obtain ⟨k, hk, he⟩ := List.mem_iff_getElem.1 hm
    refine ⟨k, hk, ?_⟩
    have hr : rowI ps k = rowI L i := by rw [rowI_getElem _ _ hk]; exact he
    rw [hr]
    exact row_inj hn (plc_lt (h _ hm)) hi (plc_row (h _ hm))
theorem orPn_lt {L ps : List (List Int)} (h : ∀ q, q ∈ ps → q ∈ L) (hl : L.length ≤ 10) : ∀ j, j ≤ ps.length → orPn L ps j < 1024
  | 0, _ => by simp [orPn]
  | j + 1, hj => by
    have ih := orPn_lt h hl j (by omega)
    have hm : rowI ps j ∈ ps := by rw [rowI_getElem _ _ (by omega)]; exact List.getElem_mem (by omega)
    have hp := plc_lt (h _ hm)
    unfold orPn orN pow2
    refine Nat.or_lt_two_pow (n := 10) ih ?_
    exact Nat.pow_lt_pow_right (by decide) (by omega)
theorem addL_left {t : Kt} {out : List (List Int)} (ho : ∀ y, y ∈ out → Left t y) : ∀ {ps : List (List Int)}, (∀ y, y ∈ ps → Left t y) → ∀ y, y ∈ addL out ps → Left t y := fun hp y hy => by
  rcases (mem_addL _ _ _).1 hy with h | h
  · exact ho y h
  · exact hp y h
theorem movL_left' {t : Kt} (hg : t.Good) {x y : List Int} {m : Nat} (hx : Left t x) (hy : y ∈ movL x m) : Left t y := by
  obtain ⟨q, hq, rfl⟩ := movL_left hg hx hy
  exact ⟨q, pd_good t hg q hq, rfl, .inr hq⟩
theorem left_len {t : Kt} (hg : t.Good) (hw : t.words.length ≤ 40) {A : List (List Int)} (hn : A.Nodup) (h : ∀ y, y ∈ A → Left t y) : A.length ≤ 41 := by
  have h1 := nodup_len (L := (t :: t.pd).map Kt.words) hn fun x hx => by
    obtain ⟨q, hq, rfl, h⟩ := h x hx
    rcases h with rfl | h
    · exact List.mem_map.2 ⟨_, by simp, rfl⟩
    · exact List.mem_map.2 ⟨q, by simp [h], rfl⟩
  have h2 := pd_length t
  have h3 := acts_le t
  simp only [List.length_map, List.length_cons] at h1
  omega
theorem addM_left {t : Kt} (hg : t.Good) {out : List (List Int)} {x : List Int} (ho : ∀ y, y ∈ out → Left t y) (hx : Left t x) (m : Nat) : ∀ y, y ∈ addM out x m → Left t y := fun y hy => by
  rcases (mem_addM _ _ _ _).1 hy with h | ⟨j, -, h⟩
  · exact ho y h
  · exact movL_left' hg hx h
/-- At most 41 parts on the way. -/
theorem way_len {t : Kt} (hg : t.Good) (hw : t.words.length ≤ 40) {out : List (List Int)} {x : List Int} (hn : out.Nodup) (ho : ∀ y, y ∈ out → Left t y) (hx : Left t x) (m j : Nat) : (addL (addM out x m) ((movL x m).take j)).length ≤ 41 :=
  left_len hg hw (nodup_addL _ _ (nodup_addM _ _ hn _)) (addL_left (addM_left hg ho hx m) fun y hy => movL_left' hg hx (List.mem_of_mem_take hy))
theorem movL_row {t : Kt} (hg : t.Good) (hw : t.words.length ≤ 40) {x y : List Int} {m : Nat} (hx : Left t x) (hy : y ∈ movL x m) : 1 ≤ y.length ∧ y.length ≤ 1640 := by
  obtain ⟨q, h1, rfl, h2⟩ := movL_left' hg hx hy
  have := left_bnd hw h2
  have := q.words_pos
  omega
/-- A tree does not lie in a block that begins with a slice. -/
theorem TreeAt.apart {w : World} {r c n : Nat} {a : Option Addr} (hr : w.cell? ⟨r, 0, none⟩ = some (.slice a n c)) : ∀ (t : Kt) (g : Nat), TreeAt w (fun _ => False) t g → TreeAt w (fun k => k = r) t g
  | .leaf x, g, h => by
    unfold TreeAt at h ⊢
    obtain ⟨-, h2⟩ := h
    refine ⟨fun e => ?_, h2⟩
    subst e
    rw [hr] at h2
    simp at h2
  | .star t, g, h => by
    unfold TreeAt at h ⊢
    obtain ⟨-, h2, hh, hc, ga, h3, -, h4, h5⟩ := h
    refine ⟨fun e => ?_, h2, hh, hc, ga, h3, fun e => ?_, h4, TreeAt.apart hr t ga h5⟩
    · subst e; rw [hr] at h2; simp at h2
    · subst e; rw [hr] at h4; simp [ptrV] at h4
  | .two s t u, g, h => by
    unfold TreeAt at h ⊢
    obtain ⟨-, h2, hh, hc, ga, gb, h3, -, h4, h5, h6, h7⟩ := h
    refine ⟨fun e => ?_, h2, hh, hc, ga, gb, h3, fun e => ?_, h4, h5, TreeAt.apart hr t ga h6, TreeAt.apart hr u gb h7⟩
    · subst e; rw [hr] at h2; simp at h2
    · subst e; rw [hr] at h4; simp [ptrV] at h4
/-- A tree beside a list of lists. -/
theorem TreeAt.beside {w : World} {B : Nat} {E : Ek} {ER : Nat} {v : Value} {ll : List (List Int)} (h : OwnLs w B E ER v ll) (h0 : 0 < ll.length) {t : Kt} {g : Nat} (ht : TreeAt w (fun _ => False) t g) : TreeAt w (fun k => v.ownBlock = some k) t g := by
  obtain ⟨a, c, rfl⟩ := h.shape
  obtain ⟨r, rfl, -, -, -, hrows⟩ := h.row h0
  obtain ⟨ai, ci, r1, -, -⟩ := hrows 0 h0
  refine TreeAt.keep (fun k hk _ => rfl) (fun k _ hx => ?_) t g (TreeAt.apart r1 t g ht)
  simp [Value.ownBlock] at hx
  exact hx.symm
theorem TreeAt.pushed {w w' : World} {v v' : Value} {t : Kt} {g : Nat} (ht : TreeAt w (fun k => v.ownBlock = some k) t g) (hg : w.grownBy w' v.ownBlock) (hw : v'.ownBlock = v.ownBlock ∨ v'.ownBlock = some w.heap.size) : TreeAt w' (fun k => v'.ownBlock = some k) t g :=
  TreeAt.keep (fun k hk hx => hg.block k hk (fun e => hx e.symm)) (fun k hk hx => by
    rcases hw with h | h
    · rw [← h]; exact hx
    · rw [h] at hx; have := Option.some.inj hx; omega) t g ht
/-- Another list beside. -/
def Bes (v u : Value) : Prop := u.ownBlock = none ∨ u.ownBlock ≠ v.ownBlock
theorem Bes.pushed {w : World} {B : Nat} {E : Ek} {ER : Nat} {v v' u : Value} {ll : List (List Int)} (h : Bes v u) (hu : OwnLs w B E ER u ll) (hw : v'.ownBlock = v.ownBlock ∨ v'.ownBlock = some w.heap.size) : Bes v' u := by
  rcases h with h | h
  · exact .inl h
  · rcases hw with e | e
    · exact .inr (by rw [e]; exact h)
    · refine .inr fun e' => ?_
      have := hu.lt w.heap.size (by rw [e', e])
      omega
theorem Bes.of {w w' : World} {B : Nat} {E : Ek} {ER ER' : Nat} {E' : Ek} {v u : Value} {ll mm : List (List Int)} (hv : OwnLs w B E ER v ll) (hu : OwnLs w' w.heap.size E' ER' u mm) : Bes v u := by
  cases h : u.ownBlock with
  | none => exact .inl h
  | some k =>
    refine .inr fun e => ?_
    have h1 := hu.lt k h
    have h2 := hv.lt k (by rw [← e, h])
    omega
theorem OwnLs.beside {w w' : World} {B B' : Nat} {E : Ek} {ER : Nat} {v u : Value} {ll mm : List (List Int)} (hu : OwnLs w B' E ER u mm) (hv : OwnLs w B E ER v ll) (h : Bes v u) (hg : w.grownBy w' v.ownBlock) (hE : E.t ≠ ER) : OwnLs w' B' E ER u mm :=
  hu.kept hg hv.typed hE h
/-- append of one slice, and where the new block lies. -/
theorem any_append_lsA {P : Program} {ops : Array Oper} {rest : List Oper} {o : Oper} {a : Act} {Q : Exit → Act → World → Prop} {w : World} (hw : Region.wanted o (yielded ops a.tmps) = true) (s x : Operand) (t : TypeId)
    (ho : o.op = .call { callee := .builtin .append, args := #[s, x], argTypes := #[t, t] }) (B : Nat) (E : Ek) (ER : Nat) (hE : E.t ≠ ER) (ht : P.underlying t = some (.slice ER))
    (hinfo : (P.info? ER).map (fun i => (i.zero, i.size, i.bytes)) = some (some (.slice none 0 0), 1, 24))
    (v : Value) (ll : List (List Int)) (hs : a.eval s = v) (hown : OwnLs w B E ER v ll) (g : Nat) (al : Option Addr) (cl : Nat) (l : List Int) (hx : a.eval x = .slice (some ⟨g, 0, none⟩) 1 1) (hcell : w.cell? ⟨g, 0, none⟩ = some (.slice al l.length cl))
    (hi : IntsE w E al l) (hc : l.length ≤ cl) (hlen : ll.length + 1 ≤ 1099511627776) (hB : B ≤ w.heap.size)
    (h : ∀ v' w', OwnLs w' B E ER v' (ll ++ [l]) → w.grownBy w' v.ownBlock → (v'.ownBlock = v.ownBlock ∨ v'.ownBlock = some w.heap.size) → wpList P ops Q rest (a.put o.dst v') w') : wpList P ops Q (o :: rest) a w := by
  have hty := hown.typed
  obtain ⟨us, h1, h2⟩ := hown
  refine want_append_at hw s x t ho B ER (.slice none 0 0) 24 ht hinfo rfl (by decide) v ll.length us hs h1 g _ hx hcell rfl hlen hB
    fun v' w' h3 h4 h5 => h v' w' ⟨us ++ [.slice al l.length cl], ?_, ?_⟩ h4 h5
  · rw [List.length_append]; exact h3
  · exact (h2.append (RowsV.one hi hc)).kept h4 hty hE
end Go.Kt
namespace Go.Proofs.YtlaamecfknkmlaaGreat
set_option linter.unusedVariables false
open Go.RowKit Go.Kt

abbrev autV (a1 : Option Addr) (n1 c1 : Nat) (a2 : Option Addr) (n2 c2 : Nat) : Value := .agg #[.slice a1 n1 c1, .slice a2 n2 c2]
theorem two_pow_le {s m : Nat} (h : s ≤ m) : (2 : Int) ^ s ≤ 2 ^ m := pow_le_big s m h
theorem behindSet_c (a1 a2 : Option Addr) (c1 c2 : Nat) (E : List Int) (N : List (List Int)) (S m : Nat) (w : World) (hN : RowsAt w a2 N) (h : Auto E N) (hS : S < 4294967296) (hm : m < 12) :
    Calls Tryz.prog 117 #[autV a1 E.length c1 a2 N.length c2, .int .i64 S, .int .i64 m] w fun e w' => e = .returned (.int .i64 (stp N S m : Nat)) ∧ Ext w w' := by
  obtain ⟨b2, o2, p2, q2⟩ := hN
  have P2 := Lib.hid p2
  have Q2 := Lib.hid q2
  have H := Lib.hid h
  have hten := h.ten
  have HL := Lib.hid h.len
  have HF : Hid (stp N S m = imgTo (colA N m) S E.length) := by unfold Hid stp img; rw [colA_length, h.len]
  rw [h.len]
  clear p2 q2 h
  generalize hn : E.length = n at *
  have HE := Lib.hid hn
  clear hn
  go_enter Tryz.func117, Tryz.ntmps117
  go_wp2
  go_loop [7, 12] (fun o i => Hid (∃ k : Nat, k ≤ n ∧ i = .int .i64 k ∧ o = .int .i64 (imgTo (colA N m) S k : Nat))) (fun _ i => n - (intOf i).toNat)
  case atStart => exact Lib.hid ⟨0, Nat.zero_le _, rfl, rfl⟩
  case round =>
    obtain ⟨k, hk, rfl, rfl⟩ := hrel.out
    clear hrel
    have hlo : imgTo (colA N m) S k < 4294967296 := by
      refine imgTo_lt (m := 32) (fun i hi => ?_) S k (by rw [colA_length, HL.out]; exact hk)
      rw [colA_length] at hi
      rw [colA_nat hi]
      have e := HL.out
      have := H.out.nat (s := i) (m := m) (by rw [HE.out]; omega) hm
      have h10 := two_10 H.out
      omega
    have hsu := Lib.hid (imgTo_succ (colA N m) S k)
    by_cases hlt : k < n
    · have hkN : k < N.length := by rw [HL.out]; exact hlt
      obtain ⟨rfl, hb2⟩ := P2.out (by omega)
      obtain ⟨ai, ci, r1, b3, o3, p3, q3⟩ := Q2.out k hkN
      have hrow := H.out.row k (by rw [HE.out]; exact hlt)
      obtain ⟨rfl, hb3⟩ := p3 (by omega)
      have r2 := q3 m (by omega)
      rw [hrow] at r1
      have hx := H.out.next k (by rw [HE.out]; exact hlt) m hm
      have hxn := H.out.nat (s := k) (m := m) (by rw [HE.out]; exact hlt) hm
      have h10 := two_10 H.out
      have hcol := colA_nat (m := m) hkN
      have hval : nth (rowI N k) m = ((natAt (rowI N k) m : Nat) : Int) := by unfold natAt; omega
      rw [hval] at r2
      rw [hcol] at hsu
      have hxs : natAt (rowI N k) m < 4294967296 := by omega
      have e := i64_orN _ _ hlo hxs
      have eb := i64_bit_eq S k (by omega)
      clear p3 q3 hrow hx hxn h10 hcol hval P2 Q2 hkN
      generalize natAt (rowI N k) m = x at *
      cases hbit : S.testBit k
      all_goals
        rw [hbit] at eb
        go_wp2
        go_round
        case rel => exact Lib.hid ⟨k + 1, by omega, by go_num, by rw [hsu.out, hbit]; rfl⟩
        case measure => simp [intOf]; omega
    · obtain rfl : k = n := by omega
      go_wp2
      go_ret
      exact ⟨by rw [HF.out]; rfl, by (repeat (first | exact Ext.refl _ | assumption | refine Ext.alloc ?_ _ | refine Ext.drewN ?_ _ | refine Ext.drew ?_))⟩
theorem endsOf_c (a1 a2 : Option Addr) (c1 n2 c2 : Nat) (E : List Int) (N : List (List Int)) (S : Nat) (w : World) (hE : IntsAt w a1 E) (h : Auto E N) (hS : S < 4294967296) :
    Calls Tryz.prog 116 #[autV a1 E.length c1 a2 n2 c2, .int .i64 S] w fun e w' => e = .returned (.int .i64 (img E S : Nat)) ∧ Ext w w' := by
  obtain ⟨b2, o2, p2, q2⟩ := hE
  have P2 := Lib.hid p2
  have Q2 := Lib.hid q2
  have H := Lib.hid h
  have hten := h.ten
  have HF : Hid (img E S = imgTo E S E.length) := rfl
  clear p2 q2 h
  generalize hn : E.length = n at *
  have HE := Lib.hid hn
  clear hn
  go_enter Tryz.func116, Tryz.ntmps116
  go_wp2
  go_loop [5, 11] (fun o i => Hid (∃ k : Nat, k ≤ n ∧ i = .int .i64 k ∧ o = .int .i64 (imgTo E S k : Nat))) (fun _ i => n - (intOf i).toNat)
  case atStart => exact Lib.hid ⟨0, Nat.zero_le _, rfl, rfl⟩
  case round =>
    obtain ⟨k, hk, rfl, rfl⟩ := hrel.out
    clear hrel
    have hlo : imgTo E S k < 4294967296 := by
      refine imgTo_lt (m := 32) (fun i hi => ?_) S k (by rw [HE.out]; exact hk)
      have := H.out.ends i hi
      unfold natAt; omega
    have hsu := Lib.hid (imgTo_succ E S k)
    by_cases hlt : k < n
    · obtain ⟨rfl, hb2⟩ := P2.out (by omega)
      have r2 := Q2.out k hlt
      have hx := H.out.ends k (by rw [HE.out]; exact hlt)
      have hval : nth E k = ((natAt E k : Nat) : Int) := by unfold natAt; omega
      rw [hval] at r2
      have hxs : natAt E k < 4294967296 := by unfold natAt; omega
      have e := i64_orN _ _ hlo hxs
      have eb := i64_bit_eq S k (by omega)
      clear hx hval P2 Q2
      generalize natAt E k = x at *
      cases hbit : S.testBit k
      all_goals
        rw [hbit] at eb
        go_wp2
        go_round
        case rel => exact Lib.hid ⟨k + 1, by omega, by go_num, by rw [hsu.out, hbit]; rfl⟩
        case measure => simp [intOf]; omega
    · obtain rfl : k = n := by omega
      go_wp2
      go_ret
      exact ⟨by rw [HF.out]; rfl, by (repeat (first | exact Ext.refl _ | assumption | refine Ext.alloc ?_ _ | refine Ext.drewN ?_ _ | refine Ext.drew ?_))⟩
theorem hasSet_c (a1 a2 : Option Addr) (n c1 n2 c2 : Nat) (x : Int) (w : World) (hn : n ≤ 10) :
    Calls Tryz.prog 56 #[autV a1 n c1 a2 n2 c2, .int .i64 x] w fun e w' => e = .returned (.bool (setB n x)) ∧ Ext w w' := by
  have hp := two_pow_le hn
  have hq := pow_pos' n
  by_cases h1 : 0 ≤ x
  all_goals
    go_enter Tryz.func56, Tryz.ntmps56
    go_wp2
    go_ret
    exact ⟨by simp [setB, h1]; try omega, by (repeat (first | exact Ext.refl _ | assumption | refine Ext.alloc ?_ _ | refine Ext.drewN ?_ _ | refine Ext.drew ?_))⟩
theorem move_c (A K : Nat) (w : World) (hA : A ≤ 3) (hK : K < 3) :
    Calls Tryz.prog 136 #[.int .i64 A, .int .i64 (16 + (K : Int))] w fun e w' => e = .returned (.int .i64 ((3 * A + K : Nat) : Int)) ∧ w = w' := by
  go_enter Tryz.func136, Tryz.ntmps136
  go_wp2
  go_ret
  exact ⟨by have : 3 * (A : Int) + (16 + (K : Int)) - 16 = ((3 * A + K : Nat) : Int) := by omega
            rw [this]; rfl, rfl⟩
abbrev togV (a1 : Option Addr) (n1 c1 : Nat) (a2 : Option Addr) (n2 c2 : Nat) (b1 : Option Addr) (m1 d1 : Nat) (b2 : Option Addr) (m2 d2 : Nat) : Value := .agg #[.slice a1 n1 c1, .slice a2 n2 c2, .slice b1 m1 d1, .slice b2 m2 d2]
abbrev pairV (p : Nat × Nat) : Value := .agg #[.int .i64 (p.1 : Nat), .int .i64 (p.2 : Nat)]
/-- What a cell holds. -/
def cellV (w : World) (b o : Nat) : Value := (w.cell? ⟨b, o, none⟩).getD undef
theorem cellV_eq {w : World} {b o : Nat} {v : Value} (h : w.cell? ⟨b, o, none⟩ = some v) : w.cell? ⟨b, o, none⟩ = some (cellV w b o) := by unfold cellV; rw [h]; rfl
abbrev HeldT (z0 z1 z2 : Nat) (v0 v1 v2 v3 x y : Value) (w' : World) : Prop :=
    (w'.cell? ⟨z0, 0, none⟩ = some v0 ∧ w'.cell? ⟨z0, 1, none⟩ = some v1 ∧ w'.cell? ⟨z0, 2, none⟩ = some v2 ∧ w'.cell? ⟨z0, 3, none⟩ = some v3) ∧
    (w'.cell? ⟨z1, 0, none⟩ = some x ∧ w'.cell? ⟨z1, 1, none⟩ = some y) ∧
    (w'.cell? ⟨z2, 0, none⟩ = some (cellV w' z2 0) ∧ w'.cell? ⟨z2, 1, none⟩ = some (cellV w' z2 1) ∧ w'.frozen? ⟨z2, 0, none⟩ = false ∧ w'.frozen? ⟨z2, 1, none⟩ = false ∧ z2 < w'.heap.size)
theorem keepT {w w' : World} {v0 v1 v2 v3 x y : Value} (h : Ext (((w.alloc (.cells #[v0, v1, v2, v3] 65)).alloc (.cells #[x, y] 71)).alloc (.cells #[.int .i64 0, .int .i64 0] 71)) w') :
    HeldT w.heap.size (w.heap.size + 1) (w.heap.size + 1 + 1) v0 v1 v2 v3 x y w' := by
  have hz := h.size
  simp at hz
  refine ⟨⟨?_, ?_, ?_, ?_⟩, ⟨?_, ?_⟩, cellV_eq (v := .int .i64 0) ?_, cellV_eq (v := .int .i64 0) ?_, (h.cells.2 _ _ (by simp)).trans (by simp [go_sem]), (h.cells.2 _ _ (by simp)).trans (by simp [go_sem]), by omega⟩ <;> exact h.cell' (by simp [go_sem]) (by simp; try omega)
theorem keepS {z0 z1 z2 : Nat} {v0 v1 v2 v3 x y u1 u2 : Value} {w' : World} (h : HeldT z0 z1 z2 v0 v1 v2 v3 x y w') (h0 : z0 ≠ z2) (h1 : z1 ≠ z2) : HeldT z0 z1 z2 v0 v1 v2 v3 x y ((w'.setCell ⟨z2, 0, none⟩ u1).setCell ⟨z2, 1, none⟩ u2) := by
  obtain ⟨⟨a1, a2, a3, a4⟩, ⟨b1, b2⟩, c1, c2, d1, d2, d3⟩ := h
  refine ⟨⟨?_, ?_, ?_, ?_⟩, ⟨?_, ?_⟩, cellV_eq (v := u1) ?_, cellV_eq (v := u2) ?_, ?_, ?_, ?_⟩ <;> simp [go_sem, *]
set_option maxRecDepth 100000 in
theorem next_c (a1 a2 : Option Addr) (c1 c2 : Nat) (E : List Int) (N : List (List Int)) (b1 b2 : Option Addr) (d1 d2 : Nat) (F : List Int) (M : List (List Int)) (S T m : Nat) (w : World) (hN : RowsAt w a2 N) (h : Auto E N) (hM : RowsAt w b2 M) (k : Auto F M) (hS : S < 4294967296) (hT : T < 4294967296) (hm : m < 12) :
    Calls Tryz.prog 58 #[togV a1 E.length c1 a2 N.length c2 b1 F.length d1 b2 M.length d2, .agg #[.int .i64 S, .int .i64 T], .int .i64 m] w fun e w' => e = .returned (.agg #[.int .i64 (stp N S m : Nat), .int .i64 (stp M T m : Nat)]) ∧ Ext w w' := by
  have C1 : Hid (∀ w', Ext w w' → Calls Tryz.prog 117 #[autV a1 E.length c1 a2 N.length c2, .int .i64 S, .int .i64 m] w' fun e w'' => e = .returned (.int .i64 (stp N S m : Nat)) ∧ Ext w' w'') := fun w' x => behindSet_c a1 a2 c1 c2 E N S m w' (hN.ext x) h hS hm
  have C2 : Hid (∀ w', Ext w w' → Calls Tryz.prog 117 #[autV b1 F.length d1 b2 M.length d2, .int .i64 T, .int .i64 m] w' fun e w'' => e = .returned (.int .i64 (stp M T m : Nat)) ∧ Ext w' w'') := fun w' x => behindSet_c b1 b2 d1 d2 F M T m w' (hM.ext x) k hT hm
  clear hN h hM k
  generalize stp N S m = x at *
  generalize stp M T m = y at *
  generalize E.length = nE at *
  generalize F.length = nF at *
  generalize N.length = nN at *
  generalize M.length = nM at *
  go_enter Tryz.func58, Tryz.ntmps58
  go_wp2
  have K0 := keepT (w := w) (v0 := .slice a1 nE c1) (v1 := .slice a2 nN c2) (v2 := .slice b1 nF d1) (v3 := .slice b2 nM d2) (x := .int .i64 S) (y := .int .i64 T) (Ext.drew (Ext.refl _))
  have KK : Hid (∀ w', Ext (((w.alloc (.cells #[.slice a1 nE c1, .slice a2 nN c2, .slice b1 nF d1, .slice b2 nM d2] 65)).alloc (.cells #[.int .i64 S, .int .i64 T] 71)).alloc (.cells #[.int .i64 0, .int .i64 0] 71)) w' → HeldT w.heap.size (w.heap.size + 1) (w.heap.size + 1 + 1) (.slice a1 nE c1) (.slice a2 nN c2) (.slice b1 nF d1) (.slice b2 nM d2) (.int .i64 S) (.int .i64 T) w') := fun w' h => keepT h
  have h02 : w.heap.size ≠ w.heap.size + 1 + 1 := by omega
  have h12 : w.heap.size + 1 ≠ w.heap.size + 1 + 1 := by omega
  go_region_held3 (HeldT w.heap.size (w.heap.size + 1) (w.heap.size + 1 + 1) (.slice a1 nE c1) (.slice a2 nN c2) (.slice b1 nF d1) (.slice b2 nM d2) (.int .i64 S) (.int .i64 T))
    (first
      | exact K0
      | exact KK.out _ (Ext.trans (by (repeat (first | exact Ext.refl _ | assumption | refine Ext.alloc ?_ _ | refine Ext.drewN ?_ _ | refine Ext.drew ?_))) (Ext.trans yk yl))
      | exact KK.out _ (Ext.trans (by (repeat (first | exact Ext.refl _ | assumption | refine Ext.alloc ?_ _ | refine Ext.drewN ?_ _ | refine Ext.drew ?_))) yk)
      | exact keepS (by assumption) h02 h12)
    ((first
      | (go_at_call 117; have _t := yk; (with_reducible refine (C2.out _ (Ext.trans (show Ext w _ by (repeat (first | exact Ext.refl _ | assumption | refine Ext.alloc ?_ _ | refine Ext.drewN ?_ _ | refine Ext.drew ?_))) yk)).mono ?_); rintro e wl ⟨rfl, yl⟩)
      | (go_at_call 117; have _t := yk; (with_reducible refine (C1.out _ (Ext.trans (show Ext w _ by (repeat (first | exact Ext.refl _ | assumption | refine Ext.alloc ?_ _ | refine Ext.drewN ?_ _ | refine Ext.drew ?_))) yk)).mono ?_); rintro e wl ⟨rfl, yl⟩)
      | (go_at_call 117; (with_reducible refine (C1.out _ (by (repeat (first | exact Ext.refl _ | assumption | refine Ext.alloc ?_ _ | refine Ext.drewN ?_ _ | refine Ext.drew ?_)))).mono ?_); rintro e wk ⟨rfl, yk⟩)
      | (go_at_call 117; (with_reducible refine (C2.out _ (by (repeat (first | exact Ext.refl _ | assumption | refine Ext.alloc ?_ _ | refine Ext.drewN ?_ _ | refine Ext.drew ?_)))).mono ?_); rintro e wk ⟨rfl, yk⟩)))
  all_goals
    have X := Ext.trans (show Ext w _ by (repeat (first | exact Ext.refl _ | assumption | refine Ext.alloc ?_ _ | refine Ext.drewN ?_ _ | refine Ext.drew ?_))) (Ext.trans yk yl)
    obtain ⟨-, -, hc1, hc2, hf1, hf2, -⟩ := KK.out _ (Ext.trans (by (repeat (first | exact Ext.refl _ | assumption | refine Ext.alloc ?_ _ | refine Ext.drewN ?_ _ | refine Ext.drew ?_))) (Ext.trans yk yl))
    go_wp2
    refine bodyPost_ret (v := .agg #[.int .i64 x, .int .i64 y]) (by simp [results, Tryz.results58, go_sem, hc1, hc2]) rfl ⟨rfl, ?_⟩
    exact (X.setCell (by simp; try omega) _).setCell (by simp; try omega) _
abbrev HeldU (z0 z1 : Nat) (v0 v1 v2 v3 x y : Value) (w' : World) : Prop :=
    (w'.cell? ⟨z0, 0, none⟩ = some v0 ∧ w'.cell? ⟨z0, 1, none⟩ = some v1 ∧ w'.cell? ⟨z0, 2, none⟩ = some v2 ∧ w'.cell? ⟨z0, 3, none⟩ = some v3) ∧
    (w'.cell? ⟨z1, 0, none⟩ = some x ∧ w'.cell? ⟨z1, 1, none⟩ = some y)
theorem keepU {w w' : World} {v0 v1 v2 v3 x y : Value} (h : Ext ((w.alloc (.cells #[v0, v1, v2, v3] 65)).alloc (.cells #[x, y] 71)) w') :
    HeldU w.heap.size (w.heap.size + 1) v0 v1 v2 v3 x y w' := by
  have hz := h.size
  simp at hz
  refine ⟨⟨?_, ?_, ?_, ?_⟩, ⟨?_, ?_⟩⟩ <;> exact h.cell' (by simp [go_sem]) (by simp; try omega)
set_option maxRecDepth 100000 in
theorem apart_c (a1 a2 : Option Addr) (c1 n2 c2 : Nat) (E : List Int) (N : List (List Int)) (b1 b2 : Option Addr) (d1 m2 d2 : Nat) (F : List Int) (M : List (List Int)) (S T : Nat) (w : World) (hE : IntsAt w a1 E) (h : Auto E N) (hF : IntsAt w b1 F) (k : Auto F M) (hS : S < 4294967296) (hT : T < 4294967296) :
    Calls Tryz.prog 57 #[togV a1 E.length c1 a2 n2 c2 b1 F.length d1 b2 m2 d2, .agg #[.int .i64 S, .int .i64 T]] w fun e w' => e = .returned (.int .i64 ((img E S ^^^ img F T : Nat) : Int)) ∧ Ext w w' := by
  have C1 : Hid (∀ w', Ext w w' → Calls Tryz.prog 116 #[autV a1 E.length c1 a2 n2 c2, .int .i64 S] w' fun e w'' => e = .returned (.int .i64 (img E S : Nat)) ∧ Ext w' w'') := fun w' x => endsOf_c a1 a2 c1 n2 c2 E N S w' (hE.ext x) h hS
  have C2 : Hid (∀ w', Ext w w' → Calls Tryz.prog 116 #[autV b1 F.length d1 b2 m2 d2, .int .i64 T] w' fun e w'' => e = .returned (.int .i64 (img F T : Nat)) ∧ Ext w' w'') := fun w' x => endsOf_c b1 b2 d1 m2 d2 F M T w' (hF.ext x) k hT
  have hx := ends_of_lt h S
  have hy := ends_of_lt k T
  have e := i64_xor (img E S) (img F T) (by omega) (by omega)
  clear hE h hF k
  generalize img E S = x at *
  generalize img F T = y at *
  generalize E.length = nE at *
  generalize F.length = nF at *
  go_enter Tryz.func57, Tryz.ntmps57
  go_wp2
  have K0 := keepU (w := w) (v0 := .slice a1 nE c1) (v1 := .slice a2 n2 c2) (v2 := .slice b1 nF d1) (v3 := .slice b2 m2 d2) (x := .int .i64 S) (y := .int .i64 T) (Ext.drew (Ext.refl _))
  have KK : Hid (∀ w', Ext ((w.alloc (.cells #[.slice a1 nE c1, .slice a2 n2 c2, .slice b1 nF d1, .slice b2 m2 d2] 65)).alloc (.cells #[.int .i64 S, .int .i64 T] 71)) w' → HeldU w.heap.size (w.heap.size + 1) (.slice a1 nE c1) (.slice a2 n2 c2) (.slice b1 nF d1) (.slice b2 m2 d2) (.int .i64 S) (.int .i64 T) w') := fun w' h => keepU h
  go_region_held3 (HeldU w.heap.size (w.heap.size + 1) (.slice a1 nE c1) (.slice a2 n2 c2) (.slice b1 nF d1) (.slice b2 m2 d2) (.int .i64 S) (.int .i64 T))
    (first
      | exact K0
      | exact KK.out _ (Ext.trans (by (repeat (first | exact Ext.refl _ | assumption | refine Ext.alloc ?_ _ | refine Ext.drewN ?_ _ | refine Ext.drew ?_))) (Ext.trans yk yl))
      | exact KK.out _ (Ext.trans (by (repeat (first | exact Ext.refl _ | assumption | refine Ext.alloc ?_ _ | refine Ext.drewN ?_ _ | refine Ext.drew ?_))) yk))
    ((first
      | (go_at_call 116; have _t := yk; (with_reducible refine (C2.out _ (Ext.trans (show Ext w _ by (repeat (first | exact Ext.refl _ | assumption | refine Ext.alloc ?_ _ | refine Ext.drewN ?_ _ | refine Ext.drew ?_))) yk)).mono ?_); rintro e wl ⟨rfl, yl⟩)
      | (go_at_call 116; have _t := yk; (with_reducible refine (C1.out _ (Ext.trans (show Ext w _ by (repeat (first | exact Ext.refl _ | assumption | refine Ext.alloc ?_ _ | refine Ext.drewN ?_ _ | refine Ext.drew ?_))) yk)).mono ?_); rintro e wl ⟨rfl, yl⟩)
      | (go_at_call 116; (with_reducible refine (C1.out _ (by (repeat (first | exact Ext.refl _ | assumption | refine Ext.alloc ?_ _ | refine Ext.drewN ?_ _ | refine Ext.drew ?_)))).mono ?_); rintro e wk ⟨rfl, yk⟩)
      | (go_at_call 116; (with_reducible refine (C2.out _ (by (repeat (first | exact Ext.refl _ | assumption | refine Ext.alloc ?_ _ | refine Ext.drewN ?_ _ | refine Ext.drew ?_)))).mono ?_); rintro e wk ⟨rfl, yk⟩)))
  all_goals
    have X := Ext.trans (show Ext w _ by (repeat (first | exact Ext.refl _ | assumption | refine Ext.alloc ?_ _ | refine Ext.drewN ?_ _ | refine Ext.drew ?_))) (Ext.trans yk yl)
    go_wp2
    go_ret
    exact ⟨rfl, X⟩
end Go.Proofs.YtlaamecfknkmlaaGreat
namespace Go.Kt
set_option linter.unusedVariables false
open Go.Proofs.YtlaamecfknkmlaaGreat
/-- append of one value of one cell in a drawn region: and where the answer lies. -/
theorem step_append_at {P : Program} {ops : Array Oper} {o : Oper} {a : Act} {K : Act → World → Prop} {Q : Exit → Act → World → Prop} {X : Prop} {w : World} (hgd : o.guard = none) (s x : Operand) (t : TypeId)
    (ho : o.op = .call { callee := .builtin .append, args := #[s, x], argTypes := #[t, t] }) (B E : Nat) (z : Value) (by' : Nat) (ht : P.underlying t = some (.slice E))
    (hinfo : (P.info? E).map (fun i => (i.zero, i.size, i.bytes)) = some (some z, 1, by')) (hz : z.cells.size = 1) (hby : by' ≤ 100)
    (v : Value) (n : Nat) (xs : List Value) (hs : a.eval s = v) (hown : w.ownsRow B E 1 v n xs) (g : Nat) (u : Value) (hx : a.eval x = .slice (some ⟨g, 0, none⟩) 1 1) (hcell : w.cell? ⟨g, 0, none⟩ = some u) (hu : u.oneCell' = true)
    (hlen : n + 1 ≤ 1099511627776) (hB : B ≤ w.heap.size)
    (h : ∀ v' w', w'.ownsRow B E 1 v' (n + 1) (xs ++ [u]) → w.grownBy w' v.ownBlock → (v'.ownBlock = v.ownBlock ∨ v'.ownBlock = some w.heap.size) → K (a.put o.dst v') w') : if Region.wanted o (yielded ops a.tmps) = true then Oper.wp P o a w K Q else X := by
  have hw : Region.wanted o (yielded ops a.tmps) = true := by simp [Region.wanted, hgd]
  rw [if_pos hw]
  obtain ⟨i, hi, hz0, hz1, hz2⟩ := info_parts hinfo
  have hby2 : (n + 1) * by' ≤ 140737488355328 := Nat.le_trans (Nat.mul_le_mul hlen hby) (by decide)
  have hnews : ∀ j u', ([u] : List Value)[j]? = some u' → w.cell? ((⟨g, 0, none⟩ : Addr).add j) = some u' := fun j u' hj => by
    match j, hj with
    | 0, hj => simp at hj; subst hj; simpa [Addr.add] using hcell
    | j + 1, hj => simp at hj
  obtain ⟨v', w', hr, h2, h3, h4⟩ := run_append_own (P := P) w B t o.type E i z 1 by' ht hi hz0 hz1 hz2 hz (by decide) v n xs hown ⟨g, 0, none⟩ 1 1 [u] rfl hnews (fun u' hu' => by simp at hu'; subst hu'; exact hu) (by unfold maxLen; omega) hby2 hB
  have hwh := run_append_where (P := P) B t o.type E i z by' ht hi hz0 hz1 hz2 v n xs hown ⟨g, 0, none⟩ 1 u hcell hu (by unfold maxLen; omega) hby2 v' w' hr
  unfold Oper.wp execOp
  simp only [ho, resolve, invoke, builtin, Sem.run_bind, Sem.run_pure, Result.andThen_ok, List.map_toArray, List.map_cons, List.map_nil, hs, hx, hr]
  exact h _ _ h2 h3 hwh
theorem step_append_intA {P : Program} {ops : Array Oper} {o : Oper} {a : Act} {K : Act → World → Prop} {Q : Exit → Act → World → Prop} {X : Prop} {w : World} (hgd : o.guard = none) (s x : Operand) (t : TypeId)
    (ho : o.op = .call { callee := .builtin .append, args := #[s, x], argTypes := #[t, t] }) (B E : Nat) (ht : P.underlying t = some (.slice E))
    (hinfo : (P.info? E).map (fun i => (i.zero, i.size, i.bytes)) = some (some (.int .i64 0), 1, 8))
    (v : Value) (l : List Int) (hs : a.eval s = v) (hown : OwnI w B E v l) (g : Nat) (u : Int) (hx : a.eval x = .slice (some ⟨g, 0, none⟩) 1 1) (hcell : w.cell? ⟨g, 0, none⟩ = some (.int .i64 u))
    (hlen : l.length + 1 ≤ 1099511627776) (hB : B ≤ w.heap.size)
    (h : ∀ v' w', OwnI w' B E v' (l ++ [u]) → w.grownBy w' v.ownBlock → (v'.ownBlock = v.ownBlock ∨ v'.ownBlock = some w.heap.size) → K (a.put o.dst v') w') : if Region.wanted o (yielded ops a.tmps) = true then Oper.wp P o a w K Q else X :=
  step_append_at hgd s x t ho B E (.int .i64 0) 8 ht hinfo rfl (by decide) v l.length _ hs hown g (.int .i64 u) hx hcell rfl hlen hB
    fun v' w' h1 h2 h3 => h v' w' (by unfold OwnI; rw [List.map_append, List.length_append]; exact h1) h2 h3
/-- The sets of a part as far as they are made. -/
def rowF (L : List (List Int)) (x : List Int) (m j : Nat) : List Int := (List.range 12).map fun i => if i < m then ((idxN L (movL x i) L.length : Nat) : Int) else if i = m then ((orPn L (movL x m) j : Nat) : Int) else 0
theorem rowF_length (L : List (List Int)) (x : List Int) (m j : Nat) : (rowF L x m j).length = 12 := by simp [rowF]
theorem rowF_at (L : List (List Int)) (x : List Int) (m j i : Nat) (hi : i < 12) : nth (rowF L x m j) i = if i < m then ((idxN L (movL x i) L.length : Nat) : Int) else if i = m then ((orPn L (movL x m) j : Nat) : Int) else 0 := by
  rw [nth_getElem _ _ (by rw [rowF_length]; exact hi)]; simp [rowF]
theorem rowF_get (L : List (List Int)) (x : List Int) (m j : Nat) (hm : m < 12) : nth (rowF L x m j) m = ((orPn L (movL x m) j : Nat) : Int) := by
  rw [rowF_at _ _ _ _ _ hm, if_neg (by omega), if_pos rfl]
theorem rowF_set (L : List (List Int)) (x : List Int) (m j : Nat) (hm : m < 12) : (rowF L x m j).set m ((orPn L (movL x m) (j + 1) : Nat) : Int) = rowF L x m (j + 1) := by
  refine ext_nth _ _ (by rw [List.length_set, rowF_length, rowF_length]) fun i hi => ?_
  rw [List.length_set, rowF_length] at hi
  rw [rowF_at _ _ _ _ _ hi, nth_getElem _ _ (by rw [List.length_set, rowF_length]; exact hi), List.getElem_set]
  by_cases h : m = i
  · subst h; rw [if_pos rfl, if_neg (by omega), if_pos rfl]
  · rw [if_neg h, ← nth_getElem _ _ (by rw [rowF_length]; exact hi), rowF_at _ _ _ _ _ hi]
    by_cases h2 : i < m
    · rw [if_pos h2, if_pos h2]
    · rw [if_neg h2, if_neg h2, if_neg (by omega), if_neg (by omega)]
theorem rowF_next {L : List (List Int)} {x : List Int} {m : Nat} (hn : L.Nodup) (h : ∀ q, q ∈ movL x m → q ∈ L) : rowF L x m (movL x m).length = rowF L x (m + 1) 0 := by
  refine ext_nth _ _ (by rw [rowF_length, rowF_length]) fun i hi => ?_
  rw [rowF_length] at hi
  rw [rowF_at _ _ _ _ _ hi, rowF_at _ _ _ _ _ hi]
  by_cases h1 : i < m
  · rw [if_pos h1, if_pos (by omega)]
  · rw [if_neg h1]
    by_cases h2 : i = m
    · subst h2; rw [if_pos rfl, if_pos (by omega), orPn_all hn h]
    · rw [if_neg h2, if_neg (by omega)]
      by_cases h3 : i = m + 1
      · rw [if_pos h3]; rfl
      · rw [if_neg h3]
theorem rowF_zero (L : List (List Int)) (x : List Int) : rowF L x 0 0 = List.replicate 12 0 := by
  refine ext_nth _ _ (by rw [rowF_length]; simp) fun i hi => ?_
  rw [rowF_length] at hi
  rw [rowF_at _ _ _ _ _ hi, if_neg (by omega), nth_getElem _ _ (by simpa using hi), List.getElem_replicate]
  by_cases h : i = 0
  · rw [if_pos h]; rfl
  · rw [if_neg h]
theorem rowF_all (L : List (List Int)) (x : List Int) : rowF L x 12 0 = rowA L x 12 := by
  refine ext_nth _ _ (by rw [rowF_length, rowA_length]) fun i hi => ?_
  rw [rowF_length] at hi
  rw [rowF_at _ _ _ _ _ hi, if_pos hi, rowA_get _ _ _ _ hi]
theorem grown_put1 (w : World) (b o : Nat) (u : Value) : w.grownBy (w.setCell ⟨b, o, none⟩ u) (some b) :=
  ⟨rfl, rfl, rfl, by simp [World.setCell], fun k hk hne => heap_setCell_other w ⟨b, o, none⟩ k u (by rintro rfl; exact hne rfl)⟩
abbrev XB (b : Nat) (v : Value) : Nat → Prop := fun k => k = b ∨ v.ownBlock = some k
theorem OwnI.lt {w : World} {B E : Nat} {v : Value} {l : List Int} (h : OwnI w B E v l) : ∀ k, v.ownBlock = some k → B ≤ k ∧ k < w.heap.size := World.ownsRow.lt h
theorem OwnI.typed {w : World} {B E : Nat} {v : Value} {l : List Int} (h : OwnI w B E v l) : ∀ k, v.ownBlock = some k → ∃ cs fz, w.heap[k]? = some (.cells cs E fz) := fun k hk => by
  rcases h.2 with ⟨rfl, _⟩ | ⟨g, cap, cur, rfl, _, hg, _⟩
  · cases hk
  · obtain rfl : g = k := Option.some.inj hk
    exact ⟨cur, (0, 0), hg⟩
/-- Lists of numbers and lists of lists lie apart. -/
theorem own_ne {w : World} {B B' t : Nat} {E : Ek} {ER : Nat} {v u : Value} {l : List Int} {ll : List (List Int)} (h : OwnI w B t v l) (k : OwnLs w B' E ER u ll) (ht : t ≠ ER) : v.ownBlock = none ∨ v.ownBlock ≠ u.ownBlock := by
  cases hv : v.ownBlock with
  | none => exact .inl rfl
  | some g =>
    refine .inr fun e => ?_
    obtain ⟨cs, fz, h1⟩ := h.typed g hv
    obtain ⟨cs', fz', h2⟩ := k.typed g e.symm
    rw [h1] at h2
    simp at h2
    exact ht h2.2.1
theorem own_ne' {w : World} {B B' t : Nat} {E : Ek} {ER : Nat} {v u : Value} {l : List Int} {ll : List (List Int)} (h : OwnI w B t v l) (k : OwnLs w B' E ER u ll) (ht : t ≠ ER) : u.ownBlock = none ∨ u.ownBlock ≠ v.ownBlock := by
  rcases own_ne h k ht with e | e
  · cases hu : u.ownBlock with
    | none => exact .inl rfl
    | some g => exact .inr (by rw [e]; simp)
  · exact .inr fun e' => e e'.symm
theorem IntsE.push {w w' : World} {t b : Nat} {v v' : Value} {a : Option Addr} {l : List Int} (h : IntsE w ⟨t, XB b v⟩ a l) (g : w.grownBy w' v.ownBlock) (hw : v'.ownBlock = v.ownBlock ∨ v'.ownBlock = some w.heap.size) : IntsE w' ⟨t, XB b v'⟩ a l := by
  have h1 : IntsE w ⟨t, fun k => XB b v k ∨ v'.ownBlock = some k⟩ a l := h.wk fun k hk hx => by
    rcases hx with hx | hx
    · exact hx
    · rcases hw with e | e
      · exact .inr (by rw [← e]; exact hx)
      · rw [e] at hx; have := Option.some.inj hx; omega
  have h2 := h1.keptX g fun k hk => .inl (.inr hk)
  exact h2.wk fun k _ hx => by
    rcases hx with hx | hx
    · exact .inl (.inl hx)
    · exact .inr hx
theorem RowsV.push {w w' : World} {t b : Nat} {v v' : Value} {vs : List Value} {ll : List (List Int)} (h : RowsV w ⟨t, XB b v⟩ vs ll) (g : w.grownBy w' v.ownBlock) (hw : v'.ownBlock = v.ownBlock ∨ v'.ownBlock = some w.heap.size) : RowsV w' ⟨t, XB b v'⟩ vs ll :=
  ⟨h.1, fun i hi => let ⟨a, c, h1, h2, h3⟩ := h.2 i hi; ⟨a, c, h1, h2, h3.push g hw⟩⟩
/-- What a box of an automaton holds beside its first cell. -/
def AutIn (b B ti tl : Nat) (v1 v2 : Value) (E : List Int) (N : List (List Int)) (w : World) : Prop :=
  (w.cell? ⟨b, 1, none⟩ = some v2 ∧ w.frozen? ⟨b, 0, none⟩ = false ∧ w.frozen? ⟨b, 1, none⟩ = false ∧ b < w.heap.size) ∧ OwnI w B ti v1 E ∧ OwnLs w B ⟨ti, XB b v1⟩ tl v2 N
theorem AutIn.ext {b B ti tl : Nat} {v1 v2 : Value} {E : List Int} {N : List (List Int)} {w w' : World} (h : AutIn b B ti tl v1 v2 E N w) (e : Ext w w') : AutIn b B ti tl v1 v2 E N w' := by
  obtain ⟨⟨h2, h3, h4, h5⟩, h6, h7⟩ := h
  exact ⟨⟨e.cell' h2 h5, (e.cells.2 _ _ h5).trans h3, (e.cells.2 _ _ h5).trans h4, Nat.lt_of_lt_of_le h5 e.size⟩, h6.ext e, h7.ext e⟩
theorem AutIn.push1 {b B ti tl : Nat} {v1 v2 v7 : Value} {E E' : List Int} {N : List (List Int)} {w w7 : World} (h : AutIn b B ti tl v1 v2 E N w) (hb : b < B) (ht : ti ≠ tl) (g : w.grownBy w7 v1.ownBlock) (o : OwnI w7 B ti v7 E')
    (hw : v7.ownBlock = v1.ownBlock ∨ v7.ownBlock = some w.heap.size) : AutIn b B ti tl v7 v2 E' N w7 := by
  obtain ⟨⟨h2, h3, h4, h5⟩, h6, h7⟩ := h
  have hne : some b ≠ v1.ownBlock := fun e => by have := h6.lt b e.symm; omega
  refine ⟨⟨g.cell h2 hne, (g.frozen_far _ h5 hne).trans h3, (g.frozen_far _ h5 hne).trans h4, Nat.lt_of_lt_of_le h5 g.size⟩, o, ?_⟩
  have hn := own_ne' h6 h7 ht
  obtain ⟨vs, k1, k2⟩ := h7
  exact ⟨vs, World.ownsRow.kept k1 g hn, k2.push g hw⟩
theorem AutIn.store {b B ti tl : Nat} {v1 v2 u : Value} {E : List Int} {N : List (List Int)} {w : World} (h : AutIn b B ti tl v1 v2 E N w) (hb : b < B) : AutIn b B ti tl v1 v2 E N (w.setCell ⟨b, 0, none⟩ u) := by
  obtain ⟨⟨h2, h3, h4, h5⟩, h6, h7⟩ := h
  have g := grown_put1 w b 0 u
  have n1 : v1.ownBlock = none ∨ v1.ownBlock ≠ some b := by
    cases h : v1.ownBlock with
    | none => exact .inl rfl
    | some k => refine .inr fun e => ?_; have := h6.lt k h; have := Option.some.inj e; omega
  have n2 : v2.ownBlock = none ∨ v2.ownBlock ≠ some b := by
    cases h : v2.ownBlock with
    | none => exact .inl rfl
    | some k => refine .inr fun e => ?_; have := h7.lt k h; have := Option.some.inj e; omega
  exact ⟨⟨by simp [go_sem]; exact h2, by simp [go_sem]; exact h3, by simp [go_sem]; exact h4, by simpa using h5⟩, h6.kept g n1, h7.keptX g (fun k hk => .inl (Option.some.inj hk).symm) n2⟩
theorem IntsE.store {b ti : Nat} {v1 u : Value} {a : Option Addr} {l : List Int} {w : World} (h : IntsE w ⟨ti, XB b v1⟩ a l) (o : Nat) : IntsE (w.setCell ⟨b, o, none⟩ u) ⟨ti, XB b v1⟩ a l :=
  h.keptX (grown_put1 w b o u) fun k hk => .inl (Option.some.inj hk).symm
/-- Behind the append to the second list. -/
theorem AutIn.push2 {b B ti tl : Nat} {v1 v2 v9 u1 : Value} {E : List Int} {N N' : List (List Int)} {w w9 : World} (h : AutIn b B ti tl v1 v2 E N w) (hc : w.cell? ⟨b, 0, none⟩ = some u1) (hb : b < B) (ht : ti ≠ tl) (g : w.grownBy w9 v2.ownBlock) (o : OwnLs w9 B ⟨ti, XB b v1⟩ tl v9 N') :
    (w9.cell? ⟨b, 0, none⟩ = some u1 ∧ w9.cell? ⟨b, 1, none⟩ = some v2 ∧ w9.frozen? ⟨b, 0, none⟩ = false ∧ w9.frozen? ⟨b, 1, none⟩ = false ∧ b < w9.heap.size) ∧ OwnI w9 B ti v1 E ∧ OwnLs w9 B ⟨ti, XB b v1⟩ tl v9 N' := by
  obtain ⟨⟨h2, h3, h4, h5⟩, h6, h7⟩ := h
  have hne : some b ≠ v2.ownBlock := fun e => by have := h7.lt b e.symm; omega
  exact ⟨⟨g.cell hc hne, g.cell h2 hne, (g.frozen_far _ h5 hne).trans h3, (g.frozen_far _ h5 hne).trans h4, Nat.lt_of_lt_of_le h5 g.size⟩, h6.kept g (own_ne h6 h7 ht), o⟩
/-- An automaton, as far as it is made, in a box. -/
def AutBox (b B ti tl : Nat) (E : List Int) (N : List (List Int)) (w : World) : Prop := ∃ a1 c1 a2 c2, w.cell? ⟨b, 0, none⟩ = some (.slice a1 E.length c1) ∧ AutIn b B ti tl (.slice a1 E.length c1) (.slice a2 N.length c2) E N w
theorem AutBox.ext {b B ti tl : Nat} {E : List Int} {N : List (List Int)} {w w' : World} (h : AutBox b B ti tl E N w) (e : Ext w w') : AutBox b B ti tl E N w' := by
  obtain ⟨a1, c1, a2, c2, h1, h2⟩ := h
  exact ⟨a1, c1, a2, c2, e.cell' h1 h2.1.2.2.2, h2.ext e⟩
theorem AutBox.done {b B ti tl a c : Nat} {a1 : Option Addr} {c1 : Nat} {v9 : Value} {E : List Int} {N : List (List Int)} {w : World} (hc : w.cell? ⟨b, 0, none⟩ = some (.slice a1 E.length c1)) (hb : b < B)
    (h : w.frozen? ⟨b, 0, none⟩ = false ∧ w.frozen? ⟨b, 1, none⟩ = false ∧ b < w.heap.size) (hc1 : ∃ u, w.cell? ⟨b, 1, none⟩ = some u) (h6 : OwnI w B ti (.slice a1 E.length c1) E) (h7 : OwnLs w B ⟨ti, XB b (.slice a1 E.length c1)⟩ tl v9 N) : AutBox b B ti tl E N (w.setCell ⟨b, 1, none⟩ v9) := by
  obtain ⟨a2, c2, rfl⟩ := h7.shape
  obtain ⟨u, hu⟩ := hc1
  have g := grown_put1 w b 1 (.slice a2 N.length c2)
  have n1 : (Value.slice a1 E.length c1).ownBlock = none ∨ (Value.slice a1 E.length c1).ownBlock ≠ some b := by
    cases h : (Value.slice a1 E.length c1).ownBlock with
    | none => exact .inl rfl
    | some k => refine .inr fun e => ?_; have := h6.lt k h; have := Option.some.inj e; omega
  have n2 : (Value.slice a2 N.length c2).ownBlock = none ∨ (Value.slice a2 N.length c2).ownBlock ≠ some b := by
    cases h : (Value.slice a2 N.length c2).ownBlock with
    | none => exact .inl rfl
    | some k => refine .inr fun e => ?_; have := h7.lt k h; have := Option.some.inj e; omega
  refine ⟨a1, c1, a2, c2, by simp [go_sem]; exact hc, ⟨?_, by simp [go_sem]; exact h.1, by simp [go_sem]; exact h.2.1, by simpa using h.2.2⟩, h6.kept g n1, h7.keptX g (fun k hk => .inl (Option.some.inj hk).symm) n2⟩
  simp [go_sem, hu]
end Go.Kt
namespace Go.Proofs.YtlaamecfknkmlaaGreat
set_option linter.unusedVariables false
open Go.RowKit Go.Kt
abbrev HeldC (b m : Nat) (w' : World) : Prop := (w'.cell? ⟨b, m, none⟩).isSome = true ∧ w'.frozen? ⟨b, m, none⟩ = false ∧ b < w'.heap.size
theorem HeldC.put {b m : Nat} {w : World} (h : HeldC b m w) (u : Value) : HeldC b m (w.setCell ⟨b, m, none⟩ u) := by
  obtain ⟨h1, h2, h3⟩ := h
  obtain ⟨v, hv⟩ := Option.isSome_iff_exists.1 h1
  exact ⟨by simp [go_sem, hv], by simp [go_sem, h2], by simpa using h3⟩
/-- The lists of an automaton. -/
def AuR (w : World) (B : Nat) (e : List Int) (a1 : Option Addr) (c1 : Nat) (a2 : Option Addr) (c2 : Nat) : Prop :=
  OwnI w B 3 (.slice a1 (auE e).length c1) (auE e) ∧ OwnLs w B (ek 3) 23 (.slice a2 (auN e).length c2) (auN e)
theorem AuR.ext {w w' : World} {B : Nat} {e : List Int} {a1 : Option Addr} {c1 : Nat} {a2 : Option Addr} {c2 : Nat} (h : AuR w B e a1 c1 a2 c2) (x : Ext w w') : AuR w' B e a1 c1 a2 c2 := ⟨h.1.ext x, h.2.ext x⟩
theorem AuR.mono {w : World} {B B' : Nat} {e : List Int} {a1 : Option Addr} {c1 : Nat} {a2 : Option Addr} {c2 : Nat} (h : AuR w B e a1 c1 a2 c2) (hB : B' ≤ B) : AuR w B' e a1 c1 a2 c2 := ⟨h.1.mono hB, h.2.mono hB⟩
/-- A cell of another block is written. -/
theorem AuR.put {w : World} {B b T : Nat} {e : List Int} {a1 : Option Addr} {c1 : Nat} {a2 : Option Addr} {c2 : Nat} (h : AuR w B e a1 c1 a2 c2) (hb : b < B) (ht : 3 ≠ T) (hh : ∃ cs fz, w.heap[b]? = some (.cells cs T fz)) (o : Nat) (u : Value) : AuR (w.setCell ⟨b, o, none⟩ u) B e a1 c1 a2 c2 := by
  obtain ⟨h1, h2⟩ := h
  have g := grown_put1 w b o u
  have n1 : (Value.slice a1 (auE e).length c1).ownBlock = none ∨ (Value.slice a1 (auE e).length c1).ownBlock ≠ some b := by
    cases h : (Value.slice a1 (auE e).length c1).ownBlock with
    | none => exact .inl rfl
    | some x => refine .inr fun e => ?_; have := h1.lt x h; have := Option.some.inj e; omega
  have n2 : (Value.slice a2 (auN e).length c2).ownBlock = none ∨ (Value.slice a2 (auN e).length c2).ownBlock ≠ some b := by
    cases h : (Value.slice a2 (auN e).length c2).ownBlock with
    | none => exact .inl rfl
    | some x => refine .inr fun e => ?_; have := h2.lt x h; have := Option.some.inj e; omega
  obtain ⟨vs, k1, k2⟩ := h2
  exact ⟨h1.kept g n1, vs, World.ownsRow.kept k1 g n2, k2.kept g (fun x hx => by rw [← Option.some.inj hx]; exact hh) ht⟩
theorem typed_put {w : World} {b T : Nat} (hh : ∃ cs fz, w.heap[b]? = some (.cells cs T fz)) (o : Nat) (u : Value) : ∃ cs fz, (w.setCell ⟨b, o, none⟩ u).heap[b]? = some (.cells cs T fz) := by
  obtain ⟨cs, fz, h⟩ := hh
  exact ⟨_, fz, by simp only [World.setCell, Array.getElem?_modify]; rw [h]; rfl⟩
def RetAu (w : World) (e : List Int) (r : Ending) (w' : World) : Prop := ∃ a1 c1 a2 c2, r = .returned (.agg #[.slice a1 (auE e).length c1, .slice a2 (auN e).length c2]) ∧ AuR w' w.heap.size e a1 c1 a2 c2 ∧ Ext w w'
theorem RetAu.none {w w' : World} {e : List Int} (h : auB e = false) (x : Ext w w') : RetAu w e (.returned (.agg #[.slice none 0 0, .slice none 0 0])) w' := by
  have h1 : auE e = [] := auE_off h
  have h2 : auN e = [] := by unfold auN; rw [h]; rfl
  refine ⟨_, 0, _, 0, by rw [h1, h2]; rfl, ?_, x⟩
  unfold AuR
  rw [h1, h2]
  exact ⟨OwnI.nil _ _ _, OwnLs.nil _ _ _ _⟩
end Go.Proofs.YtlaamecfknkmlaaGreat
namespace Go.Kt
set_option linter.unusedVariables false
theorem row_two {x y : Int} {r : List Int} (hl : r.length = 2) (h0 : nth r 0 = x) (h1 : nth r 1 = y) : r = [x, y] := by
  match r, hl with
  | [a, b], _ => have e0 : a = x := h0; have e1 : b = y := h1; rw [e0, e1]
theorem mem_takeR {L : List (List Int)} {k : Nat} (h : k < L.length) (x : List Int) : x ∈ L.take (k + 1) ↔ x ∈ L.take k ∨ x = rowI L k := by
  rw [List.take_add_one, List.getElem?_eq_getElem h, List.mem_append, rowI_getElem _ _ h]; simp
end Go.Kt
namespace Go.Proofs.YtlaamecfknkmlaaGreat
set_option linter.unusedVariables false
open Go.RowKit Go.Kt
set_option maxHeartbeats 1000000 in
theorem l5Step_c (a1 a2 : Option Addr) (c1 c2 : Nat) (E : List Int) (N : List (List Int)) (S m : Nat) (w : World) (hN : RowsAt w a2 N) (h : Auto E N) (hS : S < 4294967296) (hm : m < 12) :
    Calls Tryz.prog 63 #[autV a1 E.length c1 a2 N.length c2, .int .i64 S, .int .i64 m] w fun e w' => e = .returned (.int .i64 (stp N S m : Nat)) ∧ Ext w w' := by
  obtain ⟨b2, o2, p2, q2⟩ := hN
  have P2 := Lib.hid p2
  have Q2 := Lib.hid q2
  have H := Lib.hid h
  have hten := h.ten
  have HL := Lib.hid h.len
  have HF : Hid (stp N S m = imgTo (colA N m) S E.length) := by unfold Hid stp img; rw [colA_length, h.len]
  rw [h.len]
  clear p2 q2 h
  generalize hn : E.length = n at *
  have HE := Lib.hid hn
  clear hn
  go_enter Tryz.func63, Tryz.ntmps63
  go_wp2
  go_loop [7, 8] (fun o i => Hid (∃ k : Nat, k ≤ n ∧ i = .int .i64 k ∧ o = .int .i64 (imgTo (colA N m) S k : Nat))) (fun _ i => n - (intOf i).toNat)
  case atStart => exact Lib.hid ⟨0, Nat.zero_le _, rfl, rfl⟩
  case round =>
    obtain ⟨k, hk, rfl, rfl⟩ := hrel.out
    clear hrel
    have hlo : imgTo (colA N m) S k < 4294967296 := by
      refine imgTo_lt (m := 32) (fun i hi => ?_) S k (by rw [colA_length, HL.out]; exact hk)
      rw [colA_length] at hi
      rw [colA_nat hi]
      have e := HL.out
      have := H.out.nat (s := i) (m := m) (by rw [HE.out]; omega) hm
      have h10 := two_10 H.out
      omega
    have hsu := Lib.hid (imgTo_succ (colA N m) S k)
    by_cases hlt : k < n
    · have hkN : k < N.length := by rw [HL.out]; exact hlt
      obtain ⟨rfl, hb2⟩ := P2.out (by omega)
      obtain ⟨ai, ci, r1, b3, o3, p3, q3⟩ := Q2.out k hkN
      have hrow := H.out.row k (by rw [HE.out]; exact hlt)
      obtain ⟨rfl, hb3⟩ := p3 (by omega)
      have r2 := q3 m (by omega)
      rw [hrow] at r1
      have hx := H.out.next k (by rw [HE.out]; exact hlt) m hm
      have hxn := H.out.nat (s := k) (m := m) (by rw [HE.out]; exact hlt) hm
      have h10 := two_10 H.out
      have hcol := colA_nat (m := m) hkN
      have hval : nth (rowI N k) m = ((natAt (rowI N k) m : Nat) : Int) := by unfold natAt; omega
      rw [hval] at r2
      rw [hcol] at hsu
      have hxs : natAt (rowI N k) m < 4294967296 := by omega
      have CB : Hid (∀ w', Calls Tryz.prog 107 #[.int .i64 S, .int .i64 k] w' fun e w'' => e = .returned (.int .i64 ((S.testBit k).toNat : Nat)) ∧ w' = w'') := fun w' => l1Bit_c S k w' hS (by omega)
      have CO : Hid (∀ w', Calls Tryz.prog 122 #[.int .i64 (imgTo (colA N m) S k : Nat), .int .i64 (natAt (rowI N k) m : Nat)] w' fun e w'' => e = .returned (.int .i64 (orN (imgTo (colA N m) S k) (natAt (rowI N k) m) : Nat)) ∧ w' = w'') := fun w' => l1Either_c _ _ w' hlo hxs
      clear p3 q3 hrow hx hxn h10 hcol hval P2 Q2 hkN
      generalize natAt (rowI N k) m = x at *
      generalize imgTo (colA N m) S k = I0 at *
      cases hbit : S.testBit k
      all_goals
        rw [hbit] at CB hsu
        go_wp2_with (first
          | (go_at_call 107; refine (CB.out _).mono ?_; rintro e w4 ⟨rfl, rfl⟩)
          | (go_at_call 122; refine (CO.out _).mono ?_; rintro e w4 ⟨rfl, rfl⟩))
        go_round
        case rel => exact Lib.hid ⟨k + 1, by omega, by go_num, by rw [hsu.out]; rfl⟩
        case measure => simp [intOf]; omega
    · obtain rfl : k = n := by omega
      go_wp2
      go_ret
      exact ⟨by rw [HF.out]; rfl, by (repeat (first | exact Ext.refl _ | assumption | refine Ext.alloc ?_ _ | refine Ext.drewN ?_ _ | refine Ext.drew ?_))⟩
set_option maxHeartbeats 1000000 in
theorem l5Ends_c (a1 a2 : Option Addr) (c1 n2 c2 : Nat) (E : List Int) (N : List (List Int)) (S : Nat) (w : World) (hE : IntsAt w a1 E) (h : Auto E N) (hS : S < 4294967296) :
    Calls Tryz.prog 62 #[autV a1 E.length c1 a2 n2 c2, .int .i64 S] w fun e w' => e = .returned (.int .i64 (img E S : Nat)) ∧ Ext w w' := by
  obtain ⟨b2, o2, p2, q2⟩ := hE
  have P2 := Lib.hid p2
  have Q2 := Lib.hid q2
  have H := Lib.hid h
  have hten := h.ten
  have HF : Hid (img E S = imgTo E S E.length) := rfl
  clear p2 q2 h
  generalize hn : E.length = n at *
  have HE := Lib.hid hn
  clear hn
  go_enter Tryz.func62, Tryz.ntmps62
  go_wp2
  go_loop [5, 6] (fun o i => Hid (∃ k : Nat, k ≤ n ∧ i = .int .i64 k ∧ o = .int .i64 (imgTo E S k : Nat))) (fun _ i => n - (intOf i).toNat)
  case atStart => exact Lib.hid ⟨0, Nat.zero_le _, rfl, rfl⟩
  case round =>
    obtain ⟨k, hk, rfl, rfl⟩ := hrel.out
    clear hrel
    have hlo : imgTo E S k < 4294967296 := by
      refine imgTo_lt (m := 32) (fun i hi => ?_) S k (by rw [HE.out]; exact hk)
      have := H.out.ends i hi
      unfold natAt; omega
    have hsu := Lib.hid (imgTo_succ E S k)
    by_cases hlt : k < n
    · obtain ⟨rfl, hb2⟩ := P2.out (by omega)
      have r2 := Q2.out k hlt
      have hx := H.out.ends k (by rw [HE.out]; exact hlt)
      have hval : nth E k = ((natAt E k : Nat) : Int) := by unfold natAt; omega
      rw [hval] at r2
      have hxs : natAt E k < 4294967296 := by unfold natAt; omega
      have CB : Hid (∀ w', Calls Tryz.prog 107 #[.int .i64 S, .int .i64 k] w' fun e w'' => e = .returned (.int .i64 ((S.testBit k).toNat : Nat)) ∧ w' = w'') := fun w' => l1Bit_c S k w' hS (by omega)
      have CO : Hid (∀ w', Calls Tryz.prog 122 #[.int .i64 (imgTo E S k : Nat), .int .i64 (natAt E k : Nat)] w' fun e w'' => e = .returned (.int .i64 (orN (imgTo E S k) (natAt E k) : Nat)) ∧ w' = w'') := fun w' => l1Either_c _ _ w' hlo hxs
      clear hx hval P2 Q2
      generalize natAt E k = x at *
      generalize imgTo E S k = I0 at *
      cases hbit : S.testBit k
      all_goals
        rw [hbit] at CB hsu
        go_wp2_with (first
          | (go_at_call 107; refine (CB.out _).mono ?_; rintro e w4 ⟨rfl, rfl⟩)
          | (go_at_call 122; refine (CO.out _).mono ?_; rintro e w4 ⟨rfl, rfl⟩))
        go_round
        case rel => exact Lib.hid ⟨k + 1, by omega, by go_num, by rw [hsu.out]; rfl⟩
        case measure => simp [intOf]; omega
    · obtain rfl : k = n := by omega
      go_wp2
      go_ret
      exact ⟨by rw [HF.out]; rfl, by (repeat (first | exact Ext.refl _ | assumption | refine Ext.alloc ?_ _ | refine Ext.drewN ?_ _ | refine Ext.drew ?_))⟩
set_option maxHeartbeats 2000000 in
theorem l6Has_c (a : Option Addr) (c : Nat) (L : List (List Int)) (x y : Int) (w : World) (hL : RowsAt w a L) (h1 : L.length ≤ 4611686018427387904) :
    Calls Tryz.prog 60 #[.slice a L.length c, .int .i64 x, .int .i64 y] w fun e w' => e = .returned (.bool (decide ([x, y] ∈ L))) ∧ Ext w w' := by
  have HL := Lib.hid hL
  have HThere : Hid (∀ k, k < L.length → (rowI L k).length = 2 → nth (rowI L k) 0 = x → nth (rowI L k) 1 = y → decide ([x, y] ∈ L) = true) := fun k hk e1 e2 e3 => by
    have : rowI L k ∈ L := by rw [rowI_getElem _ _ hk]; exact List.getElem_mem hk
    rw [row_two e1 e2 e3] at this
    exact decide_eq_true this
  have HNot : Hid ([x, y] ∉ L.take L.length → decide ([x, y] ∈ L) = false) := fun h => by rw [List.take_length] at h; exact decide_eq_false h
  have HSt : Hid (∀ k, k < L.length → [x, y] ∉ L.take k → ¬ ((rowI L k).length = 2 ∧ nth (rowI L k) 0 = x ∧ nth (rowI L k) 1 = y) → [x, y] ∉ L.take (k + 1)) := fun k hk h hn hm => by
    rcases (mem_takeR hk _).1 hm with h' | h'
    · exact h h'
    · exact hn (by rw [← h']; exact ⟨rfl, rfl, rfl⟩)
  have H0 : Hid ([x, y] ∉ L.take 0) := by unfold Hid; simp
  clear hL
  generalize decide ([x, y] ∈ L) = F at *
  obtain ⟨n, hn⟩ : ∃ n, n = L.length := ⟨_, rfl⟩
  have HN := Lib.hid hn
  rw [← hn] at h1 ⊢
  clear hn
  go_enter Tryz.func60, Tryz.ntmps60
  go_wp2
  go_loopw [7] (fun i wr => Hid (∃ k m : Nat, k ≤ n ∧ i = .int .i64 k ∧ [x, y] ∉ L.take k ∧ wr = w.drewN m)) (fun i _ => n - (intOf i).toNat)
  case atStart => exact Lib.hid ⟨0, 0, Nat.zero_le _, rfl, H0.out, rfl⟩
  case round =>
    obtain ⟨k, m, hk, rfl, hni, rfl⟩ := hrel.out
    have HNI := Lib.hid hni
    clear hrel hni
    by_cases hkn : k < n
    · have hki : (k : Int) < (n : Int) := by omega
      have hkl : k < L.length := by rw [← HN.out]; exact hkn
      obtain ⟨g, off, q1, q2⟩ := HL.out
      obtain ⟨rfl, hg⟩ := q1 (by omega)
      obtain ⟨ai, ci, d0, g2, o2, p2, p3⟩ := q2 k hkl
      have HSk := Lib.hid (HSt.out k hkl HNI.out)
      have HTk := Lib.hid (HThere.out k hkl)
      clear q1 q2 HSt HThere HNI HNot
      by_cases hl2 : (rowI L k).length = 2
      · obtain ⟨rfl, z2⟩ := p2 (by omega)
        have d1 := p3 0 (by omega)
        have d2 := p3 1 (by omega)
        rw [Nat.add_zero] at d1
        rw [hl2] at d0 HSk HTk
        clear hl2 p2 p3
        generalize nth (rowI L k) 0 = u at *
        generalize nth (rowI L k) 1 = v at *
        by_cases hu : u = x
        · by_cases hv : v = y
          · have HR := Lib.hid (HTk.out rfl hu hv)
            subst hu
            subst hv
            clear HTk HSk
            go_wp2
            go_ret
            exact ⟨by rw [HR.out]; rfl, by (repeat (first | exact Ext.refl _ | assumption | refine Ext.alloc ?_ _ | refine Ext.drewN ?_ _ | refine Ext.drew ?_))⟩
          · have HR := Lib.hid (HSk.out (fun h => hv h.2.2))
            have hv' : (v == y) = false := by simpa using hv
            subst hu
            clear HTk HSk hv
            go_wp2
            go_roundw
            case rel => exact Lib.hid ⟨k + 1, _, by omega, by go_num, HR.out, rfl⟩
            case measure => simp [intOf]; omega
        · have HR := Lib.hid (HSk.out (fun h => hu h.2.1))
          have hu' : (u == x) = false := by simpa using hu
          clear HTk HSk hu
          go_wp2
          go_roundw
          case rel => exact Lib.hid ⟨k + 1, _, by omega, by go_num, HR.out, rfl⟩
          case measure => simp [intOf]; omega
      · have HR := Lib.hid (HSk.out (fun h => hl2 h.1))
        have hl' : (((rowI L k).length : Int) == 2) = false := by simp; omega
        clear HTk HSk hl2 p2 p3
        generalize (rowI L k).length = nr at *
        go_wp2
        go_roundw
        case rel => exact Lib.hid ⟨k + 1, _, by omega, by go_num, HR.out, rfl⟩
        case measure => simp [intOf]; omega
    · obtain rfl : k = n := by omega
      have HR := Lib.hid (HNot.out (by rw [← HN.out]; exact HNI.out))
      clear HThere HNot HSt HNI
      go_wp2
      go_ret
      exact ⟨by rw [HR.out]; rfl, by (repeat (first | exact Ext.refl _ | assumption | refine Ext.alloc ?_ _ | refine Ext.drewN ?_ _ | refine Ext.drew ?_))⟩
end Go.Proofs.YtlaamecfknkmlaaGreat
